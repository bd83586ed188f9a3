/-
  BmC: BmLoad, BmOpen, BmOpened, BmWithin.
-/
import Derived.Test.YtaphcmcimoloiaaGreatDoorBmB
import Derived.Test.YtaphcmcimoloiaaGreatDoorInodeDec
import Derived.Test.YtaphcmcimoloiaaGreatDoorInodeList
import Derived.Test.YtaphcmcimoloiaaGreatDoorSpI
import Derived.Laws.CopyOwn
namespace Go.Proofs.YtaphcmcimoloiaaGreatDoor
open Go Go.RowKit Txt Sp

theorem inodeAt_in {g : Sp.Geom} (hg : g.ok) {i : Int} (h1 : 1 ≤ i) (h2 : i ≤ g.groups * g.inodes) : (inodeAt g i).1 = inodeSec g i ∧ (inodeAt g i).2.2.2 = 0 := by
  have hm := Geom.many_ok hg
  unfold inodeAt Geom.within
  rw [if_pos hg, hm, if_neg (show ¬ (i < 0 ∨ g.groups * g.inodes + 1 ≤ i) by omega), if_pos rfl, if_neg (show ¬ i = 0 by omega)]
  exact ⟨rfl, rfl⟩
section
set_option maxHeartbeats 2000000
theorem first_zeroI {w w5 : World} {cs : Array Value} {e : TypeId} (hb : Below (w.alloc (.cells cs e)).drew.heap.size (w.alloc (.cells cs e)).drew w5) : w5.heap[w.heap.size]? = some (.cells cs e (0, 0)) := heapOld (blN (blD (Below.refl _ _)) hb) (heapNew w _)
theorem next_zeroI {w w5 : World} {cs : Array Value} {e : TypeId} (hb : Below (w.alloc (.cells cs e)).heap.size (w.alloc (.cells cs e)) w5) : w5.heap[w.heap.size]? = some (.cells cs e (0, 0)) := heapOld hb (heapNew w _)
theorem sets14 {w0 w : World} {B b : Nat} (hB : B ≤ b) (h : Below B w0 w) {v0 v1 v2 v3 v4 v5 v6 v7 v8 v9 v10 v11 v12 v13 : Value} : Below B w0 ((((((((((((((w.setCell ⟨b, 0, none⟩ v0).setCell ⟨b, 1, none⟩ v1).setCell ⟨b, 2, none⟩ v2).setCell ⟨b, 3, none⟩ v3).setCell ⟨b, 4, none⟩ v4).setCell ⟨b, 5, none⟩ v5).setCell ⟨b, 6, none⟩ v6).setCell ⟨b, 7, none⟩ v7).setCell ⟨b, 8, none⟩ v8).setCell ⟨b, 9, none⟩ v9).setCell ⟨b, 10, none⟩ v10).setCell ⟨b, 11, none⟩ v11).setCell ⟨b, 12, none⟩ v12).setCell ⟨b, 13, none⟩ v13) :=
  sets_below hB [v0, v1, v2, v3, v4, v5, v6, v7, v8, v9, v10, v11, v12, v13] 0 w h
theorem blk_cells {w : World} {n : Nat} {cs : Array Value} {e : TypeId} (h : w.heap[n]? = some (.cells cs e (0, 0))) : (∀ k, w.cell? ⟨n, k, none⟩ = cs[k]?) ∧ ∀ k, w.frozen? ⟨n, k, none⟩ = false :=
  ⟨fun k => by simp [World.cell?, h], fun k => by simp [World.frozen?, h]⟩
theorem ino_cells {w : World} {n : Nat} (h : w.heap[n]? = some (.cells #[.int .i64 0, .int .i64 0, .int .i64 0, .int .i64 0, .int .i64 0, .int .i64 0, .int .i64 0, .int .i64 0, .int .i64 0, .int .i64 0, .int .i64 0, .int .i64 0, .int .i64 0, .int .i64 0] 56 (0, 0))) :
    (∀ k, w.cell? ⟨n, k, none⟩ = (#[.int .i64 0, .int .i64 0, .int .i64 0, .int .i64 0, .int .i64 0, .int .i64 0, .int .i64 0, .int .i64 0, .int .i64 0, .int .i64 0, .int .i64 0, .int .i64 0, .int .i64 0, .int .i64 0] : Array Value)[k]?) ∧ ∀ k, w.frozen? ⟨n, k, none⟩ = false :=
  ⟨fun k => by simp [World.cell?, h], fun k => by simp [World.frozen?, h]⟩
end
end Go.Proofs.YtaphcmcimoloiaaGreatDoor

namespace Go.Proofs.YtaphcmcimoloiaaGreatDoor
open Go Go.RowKit Txt Sp

section
set_option maxHeartbeats 4000000
end
end Go.Proofs.YtaphcmcimoloiaaGreatDoor

namespace Go.Proofs.YtaphcmcimoloiaaGreatDoor
open Go Go.RowKit Txt Sp

section
set_option maxHeartbeats 4000000
end
end Go.Proofs.YtaphcmcimoloiaaGreatDoor

namespace Go.Proofs.YtaphcmcimoloiaaGreatDoor
open Go Go.RowKit Txt Sp

section
variable {w0 w : World} {base B Bd Bf : Nat} {D0 D : Nat → Prop} {g : Sp.Geom} {i at_ : Int} {n : Sp.Inode} {t : BSt} {vb vm : Value}
set_option maxHeartbeats 2000000
end
end Go.Proofs.YtaphcmcimoloiaaGreatDoor
