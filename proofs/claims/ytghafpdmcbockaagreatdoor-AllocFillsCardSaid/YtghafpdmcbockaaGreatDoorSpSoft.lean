/-
  Layers 11, 12, 14 as plain data: a disk, changes that are not done, one node's side of a disk. No program in this text.
-/
import Derived.Test.YtghafpdmcbockaaGreatDoorSpA
namespace Go.Proofs.YtghafpdmcbockaaGreatDoor.Sp
open Go Txt

/-- A change that is not done: 1 pending, 2 under way. -/
structure Chg where
  num : Nat
  at_ : Int
  off : Int
  bytes : ByteArray
  ahead : List Int
  state : Int
structure Deps where
  l : List Chg
  last : Nat
structure Wr where
  node : Int
  epoch : Int
  at_ : Int
  s : ByteArray
structure Disk where
  l : List ByteArray
  waits : List (Int × Wr)
  last : Nat
structure Side where
  disk : Disk
  deps : Deps
  node : Int
  epoch : Int
  fly : List (Int × Int)

def Disk.has (d : Disk) (i : Int) : Prop := 0 ≤ i ∧ i < d.l.length
instance (d : Disk) (i : Int) : Decidable (d.has i) := by unfold Disk.has; infer_instance
def Disk.get (d : Disk) (i : Int) : ByteArray := d.l.getD i.toNat ⟨#[]⟩
def Disk.readC (d : Disk) (i : Int) : Int := if d.has i then 0 else 1
def Disk.read (d : Disk) (i : Int) : ByteArray := if d.has i then d.get i else ⟨#[]⟩
def Disk.layC (d : Disk) (i : Int) (s : ByteArray) : Int := if d.has i then (if s.size = 64 then 0 else 3) else 1
def Disk.lay (d : Disk) (i : Int) (s : ByteArray) : Disk := if d.layC i s = 0 then { d with l := d.l.set i.toNat s } else d
def newDisk (n : Nat) : Disk := ⟨(List.replicate n blank).set 1 (wallB 0 0), [], 0⟩

def Chg.over (c : Chg) (off : Int) (b : ByteArray) : Prop := max c.off off < min (c.off + c.bytes.size) (off + b.size)
instance (c : Chg) (off : Int) (b : ByteArray) : Decidable (c.over off b) := by unfold Chg.over; infer_instance
/-- Changes of a side: as many as may be, each in its sector, their numbers rising. -/
structure Deps.Ok (d : Deps) : Prop where
  few : d.l.length ≤ 1024
  fit : ∀ c ∈ d.l, inside c.off c.bytes.size
  st : ∀ c ∈ d.l, c.state = 1 ∨ c.state = 2
  num : ∀ c ∈ d.l, 1 ≤ c.num ∧ c.num ≤ d.last
  rise : d.l.Pairwise (fun a b => a.num < b.num)
  last : d.last ≤ 1000000000
def Deps.addC (d : Deps) (i off : Int) (b : ByteArray) (ahead : List Int) : Int :=
  if 0 ≤ i ∧ i < 2048 ∧ inside off b.size then (if ∃ n ∈ ahead, n < 1 ∨ (d.last : Int) < n then 5 else if 1024 ≤ d.l.length then 2 else 0) else 1
def Deps.overs (d : Deps) (i off : Int) (b : ByteArray) : List Int := (d.l.filter (fun c => decide (c.at_ = i ∧ c.over off b))).map (fun c => (c.num : Int))
def Deps.add (d : Deps) (i off : Int) (b : ByteArray) (ahead : List Int) : Deps :=
  if d.addC i off b ahead = 0 then ⟨d.l ++ [⟨d.last + 1, i, off, b, ahead ++ d.overs i off b, 1⟩], d.last + 1⟩ else d
def Deps.of (d : Deps) (i : Int) : List Chg := d.l.filter (fun c => decide (c.at_ = i))
def Deps.patches (d : Deps) (i : Int) : List (Int × ByteArray) := (d.of i).map (fun c => (c.off, c.bytes))
def Deps.viewC (s : ByteArray) : Int := if s.size = 64 then 0 else 4
def Deps.view (d : Deps) (i : Int) (s : ByteArray) : ByteArray := if s.size = 64 then ofL (patchedL s.data.toList (d.patches i)) else ⟨#[]⟩

structure Side.Ok (S : Side) : Prop where
  deps : S.deps.Ok
  sect : ∀ s ∈ S.disk.l, s.size = 64
  size : S.disk.l.length ≤ 2048
def Side.readC (S : Side) (i : Int) : Int := S.disk.readC i
def Side.read (S : Side) (i : Int) : ByteArray := if S.disk.has i then S.deps.view i (S.disk.get i) else ⟨#[]⟩
def Side.changeC (S : Side) (i off : Int) (b : ByteArray) (ahead : List Int) : Int := if S.disk.has i then S.deps.addC i off b ahead else 1
def Side.changeN (S : Side) (i off : Int) (b : ByteArray) (ahead : List Int) : Int := if S.changeC i off b ahead = 0 then S.deps.last + 1 else 0
def Side.change (S : Side) (i off : Int) (b : ByteArray) (ahead : List Int) : Side := if S.changeC i off b ahead = 0 then { S with deps := S.deps.add i off b ahead } else S

theorem Deps.patches_ok {d : Deps} (h : d.Ok) (i : Int) : patchesOk (d.patches i) := by
  intro p hp
  obtain ⟨c, hc, rfl⟩ := List.mem_map.1 hp
  exact h.fit c (List.mem_filter.1 hc).1
theorem Deps.patches_few {d : Deps} (h : d.Ok) (i : Int) : (d.patches i).length ≤ 1024 := by
  unfold Deps.patches Deps.of
  rw [List.length_map]
  exact Nat.le_trans (List.length_filter_le _ _) h.few
theorem Deps.view_size {d : Deps} (h : d.Ok) {i : Int} {s : ByteArray} (hs : s.size = 64) : (d.view i s).size = 64 := by
  unfold Deps.view
  rw [if_pos hs, Lib.size_eq, ofL_data, patchedL_length _ _ hs (Deps.patches_ok h i)]
theorem Deps.add_ok {d : Deps} (h : d.Ok) {i off : Int} {b : ByteArray} {ahead : List Int} (hl : d.last < 1000000000) : (d.add i off b ahead).Ok := by
  unfold Deps.add
  split
  · rename_i h0
    unfold Deps.addC at h0
    split at h0
    · rename_i h1
      split at h0
      · exact absurd h0 (by decide)
      · split at h0
        · exact absurd h0 (by decide)
        · rename_i h2
          refine ⟨?_, ?_, ?_, ?_, ?_, ?_⟩
          · rw [List.length_append, List.length_singleton]; omega
          · intro c hc
            rcases List.mem_append.1 hc with hc | hc
            · exact h.fit c hc
            · rw [List.mem_singleton.1 hc]; exact h1.2.2
          · intro c hc
            rcases List.mem_append.1 hc with hc | hc
            · exact h.st c hc
            · rw [List.mem_singleton.1 hc]; exact Or.inl rfl
          · intro c hc
            rcases List.mem_append.1 hc with hc | hc
            · have := h.num c hc
              show 1 ≤ c.num ∧ c.num ≤ d.last + 1
              omega
            · rw [List.mem_singleton.1 hc]
              show 1 ≤ d.last + 1 ∧ d.last + 1 ≤ d.last + 1
              omega
          · rw [List.pairwise_append]
            refine ⟨h.rise, List.pairwise_singleton _ _, fun x hx y hy => ?_⟩
            rw [List.mem_singleton.1 hy]
            have := (h.num x hx).2
            show x.num < d.last + 1
            omega
          · show d.last + 1 ≤ _
            omega
    · exact absurd h0 (by decide)
  · exact h
theorem Deps.add_patches {d : Deps} {i off : Int} {b : ByteArray} {ahead : List Int} (h : d.addC i off b ahead = 0) (j : Int) : (d.add i off b ahead).patches j = d.patches j ++ (if j = i then [(off, b)] else []) := by
  unfold Deps.add Deps.patches Deps.of
  rw [if_pos h]
  dsimp only
  rw [List.filter_append, List.map_append]
  by_cases hj : j = i
  · subst hj
    simp
  · rw [if_neg hj]
    simp [Ne.symm hj]
theorem Side.change_ok {S : Side} (h : S.Ok) {i off : Int} {b : ByteArray} {ahead : List Int} (hl : S.deps.last < 1000000000) : (S.change i off b ahead).Ok := by
  unfold Side.change
  split
  · exact ⟨Deps.add_ok h.deps hl, h.sect, h.size⟩
  · exact h
/-- What a side sees behind a change. -/
theorem Side.read_change {S : Side} {i off : Int} {b : ByteArray} {ahead : List Int} (h : S.Ok) (hc : S.changeC i off b ahead = 0) (j : Int) :
    (S.change i off b ahead).read j = if j = i then ofL (patchL (S.read i).data.toList off.toNat b.data.toList) else S.read j := by
  unfold Side.change
  rw [if_pos hc]
  unfold Side.changeC at hc
  split at hc
  · rename_i hi
    by_cases hj : j = i
    · subst hj
      rw [if_pos rfl]
      have hg : (S.disk.get j).size = 64 := by
        refine h.sect _ ?_
        unfold Disk.get
        have hlt : j.toNat < S.disk.l.length := by unfold Disk.has at hi; omega
        rw [List.getD_eq_getElem?_getD, List.getElem?_eq_getElem hlt]
        exact List.getElem_mem hlt
      unfold Side.read
      dsimp only
      rw [if_pos hi, if_pos hi]
      unfold Deps.view
      rw [if_pos hg, if_pos hg, Deps.add_patches hc, if_pos rfl, patchedL_snoc, ofL_data]
    · rw [if_neg hj]
      unfold Side.read
      dsimp only
      unfold Deps.view
      rw [Deps.add_patches hc, if_neg hj, List.append_nil]
  · exact absurd hc (by decide)
end Go.Proofs.YtghafpdmcbockaaGreatDoor.Sp
