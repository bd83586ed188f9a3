/-
  SpC: SpSoft, SpAlloc, SpTaken, SpCount, SpTook, SpFresh.
-/
import Derived.Test.YtaphcmcimoloiaaGreatDoorSpA
namespace Go.Proofs.YtaphcmcimoloiaaGreatDoor.Sp
open Go Txt

/-- A change that is not done: 1 pending, 2 under way. -/
structure Chg where
  num : Nat
  at_ : Int
  off : Int
  bytes : ByteArray
  ahead : List Int
  state : Int
structure Deps where
  l : List Chg
  last : Nat
structure Wr where
  node : Int
  epoch : Int
  at_ : Int
  s : ByteArray
structure Disk where
  l : List ByteArray
  waits : List (Int × Wr)
  last : Nat
structure Side where
  disk : Disk
  deps : Deps
  node : Int
  epoch : Int
  fly : List (Int × Int)

/-- Changes of a side: as many as may be, each in its sector, their numbers rising. -/
structure Deps.Ok (d : Deps) : Prop where
  few : d.l.length ≤ 1024
  fit : ∀ c ∈ d.l, inside c.off c.bytes.size
  st : ∀ c ∈ d.l, c.state = 1 ∨ c.state = 2
  num : ∀ c ∈ d.l, 1 ≤ c.num ∧ c.num ≤ d.last
  rise : d.l.Pairwise (fun a b => a.num < b.num)
  last : d.last ≤ 1000000000
structure Side.Ok (S : Side) : Prop where
  deps : S.deps.Ok
  sect : ∀ s ∈ S.disk.l, s.size = 64
  size : S.disk.l.length ≤ 2048
end Go.Proofs.YtaphcmcimoloiaaGreatDoor.Sp

namespace Go.Proofs.YtaphcmcimoloiaaGreatDoor.Sp
open Go Txt

def mapAtG (g : Geom) (k : Int) (b : Bool) : Int := g.first k + (if b then 1 else 0)
/-- What a taking answers: its group, its place, its change, a code. -/
structure Took where
  group : Int
  place : Int
  change : Int
  code : Int
def inodeNo (g : Geom) (k p : Int) : Int := k * g.inodes + p + 1
def blockNo (g : Geom) (k p : Int) : Int := g.first k + 2 + g.inodes + p
def inodeC (g : Geom) (n : Int) : Int := if g.ok then (if n < 1 ∨ g.groups * g.inodes < n then 1 else 0) else 4
end Go.Proofs.YtaphcmcimoloiaaGreatDoor.Sp

namespace Go.Proofs.YtaphcmcimoloiaaGreatDoor.Sp
open Go Txt

end Go.Proofs.YtaphcmcimoloiaaGreatDoor.Sp

namespace Go.Proofs.YtaphcmcimoloiaaGreatDoor.Sp
open Go Txt

end Go.Proofs.YtaphcmcimoloiaaGreatDoor.Sp

namespace Go.Proofs.YtaphcmcimoloiaaGreatDoor.Sp
open Go Txt

section
variable {S : Side} {g : Geom} {X Y : List Int} {r : Nat}
theorem inodeC_no {g : Geom} (hg : g.ok) {n : Int} (h1 : 1 ≤ n) (h2 : n ≤ g.groups * g.inodes) : inodeC g n = 0 ∧ (0 ≤ (n - 1) / g.inodes ∧ (n - 1) / g.inodes < g.groups) ∧ (0 ≤ (n - 1) % g.inodes ∧ (n - 1) % g.inodes < g.inodes) ∧ inodeNo g ((n - 1) / g.inodes) ((n - 1) % g.inodes) = n := by
  have hi : 0 < g.inodes := hg.2.2.1
  refine ⟨?_, ⟨Int.ediv_nonneg (by omega) (by omega), Int.ediv_lt_of_lt_mul hi (by omega)⟩, ⟨Int.emod_nonneg _ (by omega), Int.emod_lt_of_pos _ hi⟩, ?_⟩
  · unfold inodeC
    rw [if_pos hg, if_neg (by omega)]
  · unfold inodeNo
    have := Int.mul_ediv_add_emod (n - 1) g.inodes
    rw [Int.mul_comm] at this
    omega
end
end Go.Proofs.YtaphcmcimoloiaaGreatDoor.Sp

namespace Go.Proofs.YtaphcmcimoloiaaGreatDoor.Sp
open Go Txt

def secAt (g : Geom) (i : Int) : ByteArray := if i = 0 then superB g else if i = 1 then wallB 0 0 else if i = g.first 0 then ofL (1 :: zeros 63) else if i = g.first 0 + 2 then inodeB rootN else blank
theorem padL_size (l : List UInt8) (h : l.length ≤ 64) : (ofL (padL l)).size = 64 := by
  rw [Lib.size_eq, ofL_data]
  unfold padL
  rw [List.length_append, zeros_length]
  omega
theorem secAt_size (g : Geom) (i : Int) : (secAt g i).size = 64 := by
  unfold secAt
  split
  · unfold superB; exact padL_size _ (by simp)
  · split
    · unfold wallB; exact padL_size _ (by simp [textL_length])
    · split
      · rw [Lib.size_eq, ofL_data]; simp [zeros_length]
      · split
        · decide +kernel
        · unfold blank; rw [Lib.size_eq, ofL_data, zeros_length]
theorem formatL_length (g : Geom) : (formatL g).length = g.size.toNat := by unfold formatL; simp
theorem formatL_at (g : Geom) {i : Nat} (h : i < g.size.toNat) : (formatL g)[i]? = some (secAt g i) := by
  unfold formatL
  rw [List.getElem?_map, List.getElem?_range h, Option.map_some]
  unfold secAt
  congr 1
  by_cases h0 : i = 0
  · subst h0; rfl
  · rw [if_neg h0, if_neg (show ¬ (i : Int) = 0 by omega)]
    by_cases h1 : i = 1
    · subst h1; rfl
    · rw [if_neg h1, if_neg (show ¬ (i : Int) = 1 by omega)]
section
variable {g : Geom} {node epoch : Int}
theorem map_in (hg : g.ok) {k : Int} (hk : 0 ≤ k ∧ k < g.groups) (b : Bool) : 0 ≤ mapAtG g k b ∧ mapAtG g k b < g.size ∧ secAt g (mapAtG g k b) = if k = 0 ∧ b = false then ofL (1 :: zeros 63) else blank := by
  have h0 := Geom.first_bd hg (k := 0) (by omega) (by omega)
  have hl := Geom.long_bd hg
  have hkl : 0 ≤ k * g.long := Int.mul_nonneg hk.1 (by omega)
  have hs : (k + 1) * g.long ≤ g.groups * g.long := Int.mul_le_mul_of_nonneg_right (by omega) (by omega)
  rw [Int.add_mul] at hs
  have hf : g.first k = g.first 0 + k * g.long := by unfold Geom.first; omega
  have hz : g.size = g.first 0 + g.groups * g.long := by rw [Geom.size_ok hg]; unfold Geom.first; omega
  have hk1 : k ≠ 0 → g.long ≤ k * g.long := fun h => by
    have := Int.mul_le_mul_of_nonneg_right (show 1 ≤ k by omega) (show 0 ≤ g.long by omega)
    omega
  unfold mapAtG secAt
  have hb : (if b then (1 : Int) else 0) = 0 ∧ b = false ∨ (if b then (1 : Int) else 0) = 1 ∧ b = true := by cases b <;> simp
  have hk0 : k = 0 → k * g.long = 0 := fun h => by rw [h, Int.zero_mul]
  rcases hb with ⟨hb, rfl⟩ | ⟨hb, rfl⟩
  · rw [hb]
    refine ⟨by omega, by omega, ?_⟩
    rw [if_neg (by omega), if_neg (by omega)]
    by_cases hk0' : k = 0
    · have := hk0 hk0'
      rw [if_pos (by omega), if_pos ⟨hk0', rfl⟩]
    · have := hk1 hk0'
      rw [if_neg (by omega), if_neg (by omega), if_neg (fun h => hk0' h.1)]
  · rw [hb]
    refine ⟨by omega, by omega, ?_⟩
    have h3 : g.first k + 1 ≠ g.first 0 ∧ g.first k + 1 ≠ g.first 0 + 2 := by
      by_cases hk0' : k = 0
      · have := hk0 hk0'; omega
      · have := hk1 hk0'; omega
    rw [if_neg (by omega), if_neg (by omega), if_neg h3.1, if_neg h3.2, if_neg (fun h => absurd h.2 (by decide))]
end
end Go.Proofs.YtaphcmcimoloiaaGreatDoor.Sp
