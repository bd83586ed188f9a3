/-
  SpC: SpSoft, SpAlloc, SpTaken, SpCount, SpTook, SpFresh.
-/
import Derived.Test.YtgofmnhfajmbfaaGreatDoorSpA
namespace Go.Proofs.YtgofmnhfajmbfaaGreatDoor.Sp
open Go Txt

/-- A change that is not done: 1 pending, 2 under way. -/
structure Chg where
  num : Nat
  at_ : Int
  off : Int
  bytes : ByteArray
  ahead : List Int
  state : Int
structure Deps where
  l : List Chg
  last : Nat
structure Wr where
  node : Int
  epoch : Int
  at_ : Int
  s : ByteArray
structure Disk where
  l : List ByteArray
  waits : List (Int × Wr)
  last : Nat
structure Side where
  disk : Disk
  deps : Deps
  node : Int
  epoch : Int
  fly : List (Int × Int)

def Disk.has (d : Disk) (i : Int) : Prop := 0 ≤ i ∧ i < d.l.length
instance (d : Disk) (i : Int) : Decidable (d.has i) := by unfold Disk.has; infer_instance
def Disk.get (d : Disk) (i : Int) : ByteArray := d.l.getD i.toNat ⟨#[]⟩
def Disk.readC (d : Disk) (i : Int) : Int := if d.has i then 0 else 1
def Disk.read (d : Disk) (i : Int) : ByteArray := if d.has i then d.get i else ⟨#[]⟩
def Disk.layC (d : Disk) (i : Int) (s : ByteArray) : Int := if d.has i then (if s.size = 64 then 0 else 3) else 1
def Disk.lay (d : Disk) (i : Int) (s : ByteArray) : Disk := if d.layC i s = 0 then { d with l := d.l.set i.toNat s } else d
def newDisk (n : Nat) : Disk := ⟨(List.replicate n blank).set 1 (wallB 0 0), [], 0⟩

def Chg.over (c : Chg) (off : Int) (b : ByteArray) : Prop := max c.off off < min (c.off + c.bytes.size) (off + b.size)
instance (c : Chg) (off : Int) (b : ByteArray) : Decidable (c.over off b) := by unfold Chg.over; infer_instance
/-- Changes of a side: as many as may be, each in its sector, their numbers rising. -/
structure Deps.Ok (d : Deps) : Prop where
  few : d.l.length ≤ 1024
  fit : ∀ c ∈ d.l, inside c.off c.bytes.size
  st : ∀ c ∈ d.l, c.state = 1 ∨ c.state = 2
  num : ∀ c ∈ d.l, 1 ≤ c.num ∧ c.num ≤ d.last
  rise : d.l.Pairwise (fun a b => a.num < b.num)
  last : d.last ≤ 1000000000
def Deps.addC (d : Deps) (i off : Int) (b : ByteArray) (ahead : List Int) : Int :=
  if 0 ≤ i ∧ i < 2048 ∧ inside off b.size then (if ∃ n ∈ ahead, n < 1 ∨ (d.last : Int) < n then 5 else if 1024 ≤ d.l.length then 2 else 0) else 1
def Deps.overs (d : Deps) (i off : Int) (b : ByteArray) : List Int := (d.l.filter (fun c => decide (c.at_ = i ∧ c.over off b))).map (fun c => (c.num : Int))
def Deps.add (d : Deps) (i off : Int) (b : ByteArray) (ahead : List Int) : Deps :=
  if d.addC i off b ahead = 0 then ⟨d.l ++ [⟨d.last + 1, i, off, b, ahead ++ d.overs i off b, 1⟩], d.last + 1⟩ else d
def Deps.of (d : Deps) (i : Int) : List Chg := d.l.filter (fun c => decide (c.at_ = i))
def Deps.patches (d : Deps) (i : Int) : List (Int × ByteArray) := (d.of i).map (fun c => (c.off, c.bytes))
def Deps.viewC (s : ByteArray) : Int := if s.size = 64 then 0 else 4
def Deps.view (d : Deps) (i : Int) (s : ByteArray) : ByteArray := if s.size = 64 then ofL (patchedL s.data.toList (d.patches i)) else ⟨#[]⟩

structure Side.Ok (S : Side) : Prop where
  deps : S.deps.Ok
  sect : ∀ s ∈ S.disk.l, s.size = 64
  size : S.disk.l.length ≤ 2048
def Side.readC (S : Side) (i : Int) : Int := S.disk.readC i
def Side.read (S : Side) (i : Int) : ByteArray := if S.disk.has i then S.deps.view i (S.disk.get i) else ⟨#[]⟩
def Side.changeC (S : Side) (i off : Int) (b : ByteArray) (ahead : List Int) : Int := if S.disk.has i then S.deps.addC i off b ahead else 1
def Side.changeN (S : Side) (i off : Int) (b : ByteArray) (ahead : List Int) : Int := if S.changeC i off b ahead = 0 then S.deps.last + 1 else 0
def Side.change (S : Side) (i off : Int) (b : ByteArray) (ahead : List Int) : Side := if S.changeC i off b ahead = 0 then { S with deps := S.deps.add i off b ahead } else S

theorem Deps.patches_ok {d : Deps} (h : d.Ok) (i : Int) : patchesOk (d.patches i) := by
  intro p hp
  obtain ⟨c, hc, rfl⟩ := List.mem_map.1 hp
  exact h.fit c (List.mem_filter.1 hc).1
theorem Deps.patches_few {d : Deps} (h : d.Ok) (i : Int) : (d.patches i).length ≤ 1024 := by
  unfold Deps.patches Deps.of
  rw [List.length_map]
  exact Nat.le_trans (List.length_filter_le _ _) h.few
theorem Deps.view_size {d : Deps} (h : d.Ok) {i : Int} {s : ByteArray} (hs : s.size = 64) : (d.view i s).size = 64 := by
  unfold Deps.view
  rw [if_pos hs, Lib.size_eq, ofL_data, patchedL_length _ _ hs (Deps.patches_ok h i)]
theorem Deps.add_ok {d : Deps} (h : d.Ok) {i off : Int} {b : ByteArray} {ahead : List Int} (hl : d.last < 1000000000) : (d.add i off b ahead).Ok := by
  unfold Deps.add
  split
  · rename_i h0
    unfold Deps.addC at h0
    split at h0
    · rename_i h1
      split at h0
      · exact absurd h0 (by decide)
      · split at h0
        · exact absurd h0 (by decide)
        · rename_i h2
          refine ⟨?_, ?_, ?_, ?_, ?_, ?_⟩
          · rw [List.length_append, List.length_singleton]; omega
          · intro c hc
            rcases List.mem_append.1 hc with hc | hc
            · exact h.fit c hc
            · rw [List.mem_singleton.1 hc]; exact h1.2.2
          · intro c hc
            rcases List.mem_append.1 hc with hc | hc
            · exact h.st c hc
            · rw [List.mem_singleton.1 hc]; exact Or.inl rfl
          · intro c hc
            rcases List.mem_append.1 hc with hc | hc
            · have := h.num c hc
              show 1 ≤ c.num ∧ c.num ≤ d.last + 1
              omega
            · rw [List.mem_singleton.1 hc]
              show 1 ≤ d.last + 1 ∧ d.last + 1 ≤ d.last + 1
              omega
          · rw [List.pairwise_append]
            refine ⟨h.rise, List.pairwise_singleton _ _, fun x hx y hy => ?_⟩
            rw [List.mem_singleton.1 hy]
            have := (h.num x hx).2
            show x.num < d.last + 1
            omega
          · show d.last + 1 ≤ _
            omega
    · exact absurd h0 (by decide)
  · exact h
theorem Deps.add_patches {d : Deps} {i off : Int} {b : ByteArray} {ahead : List Int} (h : d.addC i off b ahead = 0) (j : Int) : (d.add i off b ahead).patches j = d.patches j ++ (if j = i then [(off, b)] else []) := by
  unfold Deps.add Deps.patches Deps.of
  rw [if_pos h]
  dsimp only
  rw [List.filter_append, List.map_append]
  by_cases hj : j = i
  · subst hj
    simp
  · rw [if_neg hj]
    simp [Ne.symm hj]
theorem Side.change_ok {S : Side} (h : S.Ok) {i off : Int} {b : ByteArray} {ahead : List Int} (hl : S.deps.last < 1000000000) : (S.change i off b ahead).Ok := by
  unfold Side.change
  split
  · exact ⟨Deps.add_ok h.deps hl, h.sect, h.size⟩
  · exact h
/-- What a side sees behind a change. -/
theorem Side.read_change {S : Side} {i off : Int} {b : ByteArray} {ahead : List Int} (h : S.Ok) (hc : S.changeC i off b ahead = 0) (j : Int) :
    (S.change i off b ahead).read j = if j = i then ofL (patchL (S.read i).data.toList off.toNat b.data.toList) else S.read j := by
  unfold Side.change
  rw [if_pos hc]
  unfold Side.changeC at hc
  split at hc
  · rename_i hi
    by_cases hj : j = i
    · subst hj
      rw [if_pos rfl]
      have hg : (S.disk.get j).size = 64 := by
        refine h.sect _ ?_
        unfold Disk.get
        have hlt : j.toNat < S.disk.l.length := by unfold Disk.has at hi; omega
        rw [List.getD_eq_getElem?_getD, List.getElem?_eq_getElem hlt]
        exact List.getElem_mem hlt
      unfold Side.read
      dsimp only
      rw [if_pos hi, if_pos hi]
      unfold Deps.view
      rw [if_pos hg, if_pos hg, Deps.add_patches hc, if_pos rfl, patchedL_snoc, ofL_data]
    · rw [if_neg hj]
      unfold Side.read
      dsimp only
      unfold Deps.view
      rw [Deps.add_patches hc, if_neg hj, List.append_nil]
  · exact absurd hc (by decide)
end Go.Proofs.YtgofmnhfajmbfaaGreatDoor.Sp

namespace Go.Proofs.YtgofmnhfajmbfaaGreatDoor.Sp
open Go Txt

def wrongC (g : Geom) (ks : List Int) : Int := if g.ok then (if ∃ n ∈ ks, n < 0 ∨ g.groups ≤ n then 1 else 0) else 4
/-- The sector of a group's map. -/
def mapAtG (g : Geom) (k : Int) (b : Bool) : Int := g.first k + (if b then 1 else 0)
def manyG (g : Geom) (b : Bool) : Int := if b then g.blocks else g.inodes
/-- A group's map as a side sees it; or none. -/
def Side.look (S : Side) (g : Geom) (k : Int) (b : Bool) : Option ByteArray :=
  if S.disk.has (mapAtG g k b) ∧ mapC (S.read (mapAtG g k b)) (manyG g b) = 0 then some (S.read (mapAtG g k b)) else none
/-- The first free place of a map. -/
def freeP (s : ByteArray) (n : Nat) : Option Nat := (List.range n).find? (fun i => s.data.toList.getD i 0 == 0)
def oneB : ByteArray := ⟨#[1]⟩
def zeroB : ByteArray := ⟨#[0]⟩
/-- What a taking answers: its group, its place, its change, a code. -/
structure Took where
  group : Int
  place : Int
  change : Int
  code : Int
def Side.takeL (S : Side) (g : Geom) (b : Bool) : List Int → Side × Took
  | [] => (S, ⟨0, 0, 0, 109⟩)
  | k :: r => match S.look g k b with
    | none => (S, ⟨0, 0, 0, 180⟩)
    | some s => match freeP s (manyG g b).toNat with
      | none => S.takeL g b r
      | some p => (S.change (mapAtG g k b) p oneB [], ⟨k, p, S.changeN (mapAtG g k b) p oneB [], S.changeC (mapAtG g k b) p oneB []⟩)
def Side.take (S : Side) (g : Geom) (b : Bool) (ks : List Int) : Side × Took := if wrongC g ks = 0 then S.takeL g b ks else (S, ⟨0, 0, 0, wrongC g ks⟩)
def inodeNo (g : Geom) (k p : Int) : Int := k * g.inodes + p + 1
def blockNo (g : Geom) (k p : Int) : Int := g.first k + 2 + g.inodes + p
/-- A place is freed: its change, a code. -/
def Side.give (S : Side) (g : Geom) (b : Bool) (k p : Int) (ahead : List Int) : Side × Int × Int :=
  match S.look g k b with
  | none => (S, 0, 180)
  | some s => if 0 ≤ p ∧ p < manyG g b ∧ s.data.toList.getD p.toNat 0 = 1 then (S.change (mapAtG g k b) p zeroB ahead, S.changeN (mapAtG g k b) p zeroB ahead, S.changeC (mapAtG g k b) p zeroB ahead) else (S, 0, 120)
def inodeC (g : Geom) (n : Int) : Int := if g.ok then (if n < 1 ∨ g.groups * g.inodes < n then 1 else 0) else 4
def Side.freeInode (S : Side) (g : Geom) (n : Int) (ahead : List Int) : Side × Int × Int :=
  if inodeC g n = 0 then S.give g false ((n - 1) / g.inodes) ((n - 1) % g.inodes) ahead else (S, 0, inodeC g n)
def blockC (g : Geom) (s : Int) : Int := if g.ok then (if s < 0 ∨ g.size ≤ s then 1 else if (g.kind s).1 = 6 then 0 else 1) else 4
def Side.freeBlock (S : Side) (g : Geom) (s : Int) (ahead : List Int) : Side × Int × Int :=
  if blockC g s = 0 then S.give g true ((g.kind s).2 / g.blocks) ((g.kind s).2 % g.blocks) ahead else (S, 0, blockC g s)
def onesN (s : ByteArray) : Nat := s.data.toList.count 1
/-- How many inodes and blocks of groups are free. -/
def Side.freeL (S : Side) (g : Geom) : List Int → Option (Int × Int)
  | [] => some (0, 0)
  | k :: r => match S.look g k false, S.look g k true, S.freeL g r with
    | some s, some t, some (x, y) => some (g.inodes - onesN s + x, g.blocks - onesN t + y)
    | _, _, _ => none
def Side.free (S : Side) (g : Geom) (ks : List Int) : Int × Int × Int :=
  if wrongC g ks = 0 then match S.freeL g ks with
    | some (x, y) => (x, y, 0)
    | none => (0, 0, 180)
  else (0, 0, wrongC g ks)
end Go.Proofs.YtgofmnhfajmbfaaGreatDoor.Sp

namespace Go.Proofs.YtgofmnhfajmbfaaGreatDoor.Sp
open Go Txt

def bitAt (s : ByteArray) (p : Nat) : UInt8 := s.data.toList.getD p 0
theorem patchL_one {l : List UInt8} {p : Nat} {v : UInt8} (h : p < l.length) : patchL l p [v] = l.set p v := by
  unfold patchL
  rw [List.set_eq_take_append_cons_drop, if_pos h]
  simp
theorem mapP_iff (l : List UInt8) (n : Nat) : mapP l n = true ↔ ∀ i, (i < n → l.getD i 0 = 0 ∨ l.getD i 0 = 1) ∧ (n ≤ i → l.getD i 0 = 0) := by
  unfold mapP
  rw [Bool.and_eq_true, List.all_eq_true, List.all_eq_true]
  constructor
  · rintro ⟨h1, h2⟩ i
    constructor
    · intro hi
      by_cases hl : i < l.length
      · have hm : l[i] ∈ l.take n := List.mem_take_iff_getElem.2 ⟨i, by omega, rfl⟩
        have := h1 _ hm
        rw [List.getD_eq_getElem?_getD, List.getElem?_eq_getElem hl]
        simpa using this
      · rw [List.getD_eq_getElem?_getD, List.getElem?_eq_none (by omega)]
        exact Or.inl rfl
    · intro hi
      by_cases hl : i < l.length
      · have hm : l[i] ∈ l.drop n := List.mem_drop_iff_getElem.2 ⟨i - n, by omega, by congr 1; omega⟩
        have := h2 _ hm
        rw [List.getD_eq_getElem?_getD, List.getElem?_eq_getElem hl]
        simpa using this
      · rw [List.getD_eq_getElem?_getD, List.getElem?_eq_none (by omega)]
        rfl
  · intro h
    constructor
    · intro b hb
      obtain ⟨i, hi, rfl⟩ := List.mem_take_iff_getElem.1 hb
      have := (h i).1 (by omega)
      rw [List.getD_eq_getElem?_getD, List.getElem?_eq_getElem (by omega)] at this
      simpa using this
    · intro b hb
      obtain ⟨i, hi, rfl⟩ := List.mem_drop_iff_getElem.1 hb
      have := (h (n + i)).2 (by omega)
      rw [List.getD_eq_getElem?_getD, List.getElem?_eq_getElem (by omega)] at this
      simpa using this
theorem mapC_size {s : ByteArray} {n : Int} (h : mapC s n = 0) : 1 ≤ n ∧ n ≤ 64 ∧ s.size = 64 ∧ mapP s.data.toList n.toNat = true := by
  unfold mapC at h
  split at h
  · exact absurd h (by decide)
  · split at h
    · rename_i h1 h2
      exact ⟨by omega, by omega, h2.1, h2.2⟩
    · exact absurd h (by decide)
theorem bit_set {s : ByteArray} (hs : s.size = 64) {p : Nat} (hp : p < 64) (v : UInt8) (q : Nat) : bitAt (ofL (patchL s.data.toList p [v])) q = if q = p then v else bitAt s q := by
  have hl : s.data.toList.length = 64 := hs
  unfold bitAt
  rw [ofL_data, patchL_one (by omega), List.getD_eq_getElem?_getD, List.getElem?_set, List.getD_eq_getElem?_getD]
  by_cases h : p = q
  · subst h
    rw [if_pos rfl, if_pos rfl, if_pos (by omega)]
    rfl
  · rw [if_neg h, if_neg (Ne.symm h)]
theorem mapC_set {s : ByteArray} {n : Int} (h : mapC s n = 0) {p : Nat} (hp : (p : Int) < n) {v : UInt8} (hv : v = 0 ∨ v = 1) : mapC (ofL (patchL s.data.toList p [v])) n = 0 := by
  obtain ⟨h1, h2, h3, h4⟩ := mapC_size h
  unfold mapC
  rw [if_neg (by omega), if_pos]
  refine ⟨?_, ?_⟩
  · rw [Lib.size_eq, ofL_data, patchL_one (by have : s.data.toList.length = 64 := h3; omega), List.length_set]; exact h3
  · rw [mapP_iff] at h4 ⊢
    intro i
    have hb := bit_set h3 (p := p) (by omega) v i
    unfold bitAt at hb
    rw [hb]
    by_cases hi : i = p
    · rw [if_pos hi]
      exact ⟨fun _ => hv, fun hn => by omega⟩
    · rw [if_neg hi]
      exact h4 i
theorem freeP_some {s : ByteArray} {n p : Nat} (h : freeP s n = some p) : p < n ∧ bitAt s p = 0 := by
  unfold freeP at h
  have h1 := List.mem_of_find?_eq_some h
  have h2 := List.find?_some h
  exact ⟨List.mem_range.1 h1, eq_of_beq h2⟩
theorem freeP_none {s : ByteArray} {n : Nat} (h : freeP s n = none) (p : Nat) (hp : p < n) : bitAt s p ≠ 0 := by
  unfold freeP at h
  exact fun e => List.find?_eq_none.1 h p (List.mem_range.2 hp) (beq_iff_eq.2 e)

/-- Just the numbers of X are taken. -/
structure Taken (S : Side) (g : Geom) (b : Bool) (no : Int → Int → Int) (X : List Int) : Prop where
  look : ∀ k, 0 ≤ k → k < g.groups → ∃ s, S.look g k b = some s ∧ ∀ p : Nat, (p : Int) < manyG g b → bitAt s p = if no k p ∈ X then 1 else 0
  sub : ∀ x ∈ X, ∃ k p : Int, (0 ≤ k ∧ k < g.groups) ∧ (0 ≤ p ∧ p < manyG g b) ∧ x = no k p
  nodup : X.Nodup
/-- Numbers tell places. -/
def NoInj (g : Geom) (b : Bool) (no : Int → Int → Int) : Prop := ∀ k p k' p' : Int, (0 ≤ k ∧ k < g.groups) → (0 ≤ p ∧ p < manyG g b) → (0 ≤ k' ∧ k' < g.groups) → (0 ≤ p' ∧ p' < manyG g b) → no k p = no k' p' → k = k' ∧ p = p'

theorem step_inj {m k p k' p' : Int} (hp : 0 ≤ p ∧ p < m) (hp' : 0 ≤ p' ∧ p' < m) (h : k * m + p = k' * m + p') : k = k' ∧ p = p' := by
  have hm : 0 < m := by omega
  have h1 : (k * m + p) / m = k := by rw [Int.add_comm, Int.add_mul_ediv_right _ _ (by omega), Int.ediv_eq_zero_of_lt hp.1 hp.2]; omega
  have h2 : (k' * m + p') / m = k' := by rw [Int.add_comm, Int.add_mul_ediv_right _ _ (by omega), Int.ediv_eq_zero_of_lt hp'.1 hp'.2]; omega
  have hk : k = k' := by rw [← h1, h, h2]
  subst hk
  exact ⟨rfl, by omega⟩
theorem inodeNo_inj (g : Geom) : NoInj g false (inodeNo g) := by
  intro k p k' p' hk hp hk' hp' h
  unfold inodeNo at h
  unfold manyG at hp hp'
  exact step_inj (m := g.inodes) hp hp' (by omega)
theorem blockNo_inj {g : Geom} (hg : g.ok) : NoInj g true (blockNo g) := by
  intro k p k' p' hk hp hk' hp' h
  unfold manyG at hp hp'
  have h1 : k * g.long + (2 + g.inodes + p) = k' * g.long + (2 + g.inodes + p') := by unfold blockNo Geom.first at h; omega
  have hi := hg.2.2.1
  have hl : g.long = 2 + g.inodes + g.blocks := rfl
  rw [if_pos rfl] at hp hp'
  have := step_inj (m := g.long) (by omega) (by omega) h1
  exact ⟨this.1, by omega⟩
theorem mapAtG_inj {g : Geom} (hg : g.ok) {k k' : Int} {b b' : Bool} (h : mapAtG g k b = mapAtG g k' b') : k = k' ∧ b = b' := by
  have hl := Geom.long_bd hg
  have h1 : k * g.long + (if b then 1 else 0) = k' * g.long + (if b' then 1 else 0) := by unfold mapAtG Geom.first at h; omega
  have := step_inj (m := g.long) (p := if b then 1 else 0) (p' := if b' then 1 else 0) (by cases b <;> simp <;> omega) (by cases b' <;> simp <;> omega) h1
  refine ⟨this.1, ?_⟩
  cases b <;> cases b' <;> simp_all
theorem look_some {S : Side} {g : Geom} {k : Int} {b : Bool} {s : ByteArray} (h : S.look g k b = some s) : S.disk.has (mapAtG g k b) ∧ s = S.read (mapAtG g k b) ∧ mapC s (manyG g b) = 0 := by
  unfold Side.look at h
  split at h
  · rename_i hc
    obtain rfl := Option.some.inj h
    exact ⟨hc.1, rfl, hc.2⟩
  · cases h
/-- What a change of one place of a map leaves. -/
theorem look_change {S : Side} {g : Geom} (hg : g.ok) (hS : S.Ok) {k : Int} {b : Bool} {s : ByteArray} (h : S.look g k b = some s) {p : Nat} (hp : (p : Int) < manyG g b) {v : UInt8} (hv : v = 0 ∨ v = 1) {ahead : List Int}
    (hc : S.changeC (mapAtG g k b) p ⟨#[v]⟩ ahead = 0) (k' : Int) (b' : Bool) :
    (S.change (mapAtG g k b) p ⟨#[v]⟩ ahead).look g k' b' = if k' = k ∧ b' = b then some (ofL (patchL s.data.toList p [v])) else S.look g k' b' := by
  obtain ⟨h1, h2, h3⟩ := look_some h
  have hdisk : (S.change (mapAtG g k b) p ⟨#[v]⟩ ahead).disk = S.disk := by unfold Side.change; rw [if_pos hc]
  have hr := Side.read_change hS hc
  by_cases he : k' = k ∧ b' = b
  · obtain ⟨rfl, rfl⟩ := he
    rw [if_pos ⟨rfl, rfl⟩]
    unfold Side.look
    rw [hr, if_pos rfl, hdisk, ← h2]
    exact if_pos ⟨h1, mapC_set h3 hp hv⟩
  · rw [if_neg he]
    unfold Side.look
    rw [hr, if_neg (fun e => he (mapAtG_inj hg e)), hdisk]
theorem change_ok0 {S : Side} {g : Geom} (hS : S.Ok) {k : Int} {b : Bool} {s : ByteArray} (h : S.look g k b = some s) {p : Nat} (hp : (p : Int) < manyG g b) (v : UInt8) (hr : S.deps.l.length < 1024) :
    S.changeC (mapAtG g k b) p ⟨#[v]⟩ [] = 0 := by
  obtain ⟨h1, h2, h3⟩ := look_some h
  have hb := (mapC_size h3).2.1
  have hz := hS.size
  unfold Side.changeC
  rw [if_pos h1]
  unfold Deps.addC
  unfold Disk.has at h1
  rw [if_pos ⟨h1.1, by omega, by unfold inside; show 0 ≤ (p : Int) ∧ 0 < ((1 : Nat) : Int) ∧ ((1 : Nat) : Int) ≤ 64 ∧ (p : Int) ≤ 64 - ((1 : Nat) : Int); omega⟩, if_neg (by simp), if_neg (by omega)]
/-- One place more, or one less. -/
theorem Taken.other {S : Side} {g : Geom} {b b' : Bool} {no : Int → Int → Int} {X : List Int} (hT : Taken S g b' no X) (hg : g.ok) (hS : S.Ok) (hb : b' ≠ b) {k : Int} {s : ByteArray} (h : S.look g k b = some s) {p : Nat} (hp : (p : Int) < manyG g b) {v : UInt8} (hv : v = 0 ∨ v = 1) {ahead : List Int}
    (hc : S.changeC (mapAtG g k b) p ⟨#[v]⟩ ahead = 0) : Taken (S.change (mapAtG g k b) p ⟨#[v]⟩ ahead) g b' no X :=
  ⟨fun k' h0 h1 => by rw [look_change hg hS h hp hv hc, if_neg (fun e => hb e.2)]; exact hT.look k' h0 h1, hT.sub, hT.nodup⟩
theorem Taken.more {S : Side} {g : Geom} {b : Bool} {no : Int → Int → Int} {X : List Int} (hT : Taken S g b no X) (hn : NoInj g b no) (hg : g.ok) (hS : S.Ok) {k : Int} (hk : 0 ≤ k ∧ k < g.groups) {s : ByteArray} (h : S.look g k b = some s) {p : Nat} (hp : (p : Int) < manyG g b) {ahead : List Int}
    (hc : S.changeC (mapAtG g k b) p oneB ahead = 0) (hx : no k p ∉ X) : Taken (S.change (mapAtG g k b) p oneB ahead) g b no (X ++ [no k p]) := by
  refine ⟨fun k' h0 h1 => ?_, fun x hx => ?_, ?_⟩
  · obtain ⟨s', hs', hb'⟩ := hT.look k' h0 h1
    have hl := look_change hg hS h hp (v := 1) (Or.inr rfl) hc k' b
    by_cases he : k' = k
    · subst he
      rw [h] at hs'
      obtain rfl := Option.some.inj hs'
      rw [if_pos ⟨rfl, rfl⟩] at hl
      refine ⟨_, hl, fun q hq => ?_⟩
      have hm := mapC_size (look_some h).2.2
      rw [bit_set hm.2.2.1 (by omega)]
      by_cases hqp : q = p
      · subst hqp
        rw [if_pos rfl, if_pos (List.mem_append_right _ (List.mem_singleton.2 rfl))]
      · rw [if_neg hqp, hb' q hq]
        have : no k' q ∈ X ++ [no k' p] ↔ no k' q ∈ X := by
          rw [List.mem_append, List.mem_singleton]
          exact ⟨fun h => h.elim id (fun e => absurd (hn _ _ _ _ hk ⟨by omega, hq⟩ hk ⟨by omega, hp⟩ e).2 (by omega)), Or.inl⟩
        simp only [this]
    · rw [if_neg (fun e => he e.1)] at hl
      refine ⟨s', hl.trans hs', fun q hq => ?_⟩
      rw [hb' q hq]
      have : no k' q ∈ X ++ [no k p] ↔ no k' q ∈ X := by
        rw [List.mem_append, List.mem_singleton]
        exact ⟨fun h => h.elim id (fun e => absurd (hn _ _ _ _ ⟨h0, h1⟩ ⟨by omega, hq⟩ hk ⟨by omega, hp⟩ e).1 he), Or.inl⟩
      simp only [this]
  · rcases List.mem_append.1 hx with hx | hx
    · exact hT.sub x hx
    · exact ⟨k, p, hk, ⟨by omega, hp⟩, List.mem_singleton.1 hx⟩
  · rw [List.nodup_append]
    exact ⟨hT.nodup, by simp, fun a ha c hc e => hx (by rw [List.mem_singleton.1 hc] at e; rw [← e]; exact ha)⟩
theorem Taken.less {S : Side} {g : Geom} {b : Bool} {no : Int → Int → Int} {X : List Int} (hT : Taken S g b no X) (hn : NoInj g b no) (hg : g.ok) (hS : S.Ok) {k : Int} (hk : 0 ≤ k ∧ k < g.groups) {s : ByteArray} (h : S.look g k b = some s) {p : Nat} (hp : (p : Int) < manyG g b) {ahead : List Int}
    (hc : S.changeC (mapAtG g k b) p zeroB ahead = 0) : Taken (S.change (mapAtG g k b) p zeroB ahead) g b no (X.filter (fun x => decide (x ≠ no k p))) := by
  refine ⟨fun k' h0 h1 => ?_, fun x hx => hT.sub x (List.mem_filter.1 hx).1, hT.nodup.filter _⟩
  obtain ⟨s', hs', hb'⟩ := hT.look k' h0 h1
  have hl := look_change hg hS h hp (v := 0) (Or.inl rfl) hc k' b
  by_cases he : k' = k
  · subst he
    rw [h] at hs'
    obtain rfl := Option.some.inj hs'
    rw [if_pos ⟨rfl, rfl⟩] at hl
    refine ⟨_, hl, fun q hq => ?_⟩
    have hm := mapC_size (look_some h).2.2
    rw [bit_set hm.2.2.1 (by omega)]
    by_cases hqp : q = p
    · subst hqp
      rw [if_pos rfl, if_neg (fun h => by simpa using (List.mem_filter.1 h).2)]
    · rw [if_neg hqp, hb' q hq]
      have : no k' q ∈ X.filter (fun x => decide (x ≠ no k' p)) ↔ no k' q ∈ X := by
        rw [List.mem_filter]
        exact ⟨fun h => h.1, fun h => ⟨h, decide_eq_true (fun e => absurd (hn _ _ _ _ hk ⟨by omega, hq⟩ hk ⟨by omega, hp⟩ e).2 (by omega))⟩⟩
      simp only [this]
  · rw [if_neg (fun e => he e.1)] at hl
    refine ⟨s', hl.trans hs', fun q hq => ?_⟩
    rw [hb' q hq]
    have : no k' q ∈ X.filter (fun x => decide (x ≠ no k p)) ↔ no k' q ∈ X := by
      rw [List.mem_filter]
      exact ⟨fun h => h.1, fun h => ⟨h, decide_eq_true (fun e => absurd (hn _ _ _ _ ⟨h0, h1⟩ ⟨by omega, hq⟩ hk ⟨by omega, hp⟩ e).1 he)⟩⟩
    simp only [this]
/-- Taking the first free place of groups. -/
theorem takeL_cases {S : Side} {g : Geom} {b : Bool} {no : Int → Int → Int} {X : List Int} (hT : Taken S g b no X) (hn : NoInj g b no) (hg : g.ok) (hS : S.Ok) (hr : S.deps.l.length < 1024) :
    ∀ ks : List Int, (∀ k ∈ ks, 0 ≤ k ∧ k < g.groups) →
    (∃ k ∈ ks, ∃ p : Nat, (p : Int) < manyG g b ∧ no k p ∉ X ∧ ∃ S', S.takeL g b ks = (S', ⟨k, p, S.deps.last + 1, 0⟩) ∧ S' = S.change (mapAtG g k b) p oneB [] ∧ S.changeC (mapAtG g k b) p oneB [] = 0 ∧ ∃ s, S.look g k b = some s) ∨
    (S.takeL g b ks = (S, ⟨0, 0, 0, 109⟩) ∧ ∀ k ∈ ks, ∀ p : Nat, (p : Int) < manyG g b → no k p ∈ X)
  | [], _ => Or.inr ⟨rfl, fun k hk => by cases hk⟩
  | k :: r, hk => by
    have hk0 := hk k (List.mem_cons_self ..)
    obtain ⟨s, hs, hb⟩ := hT.look k hk0.1 hk0.2
    have hm := mapC_size (look_some hs).2.2
    unfold Side.takeL
    rw [hs]
    dsimp only
    cases hf : freeP s (manyG g b).toNat with
    | some p =>
      obtain ⟨hp, hbit⟩ := freeP_some hf
      have hp2 : (p : Int) < manyG g b := by omega
      have hx : no k p ∉ X := fun h => by
        rw [hb p hp2, if_pos h] at hbit
        exact absurd hbit (by decide)
      have hc := change_ok0 hS hs hp2 1 hr
      refine Or.inl ⟨k, List.mem_cons_self .., p, hp2, hx, _, ?_, rfl, hc, s, hs⟩
      dsimp only
      have hc2 : S.changeC (mapAtG g k b) p oneB [] = 0 := hc
      unfold Side.changeN
      rw [hc2, if_pos rfl]
    | none =>
      dsimp only
      rcases takeL_cases hT hn hg hS hr r (fun q hq => hk q (List.mem_cons_of_mem _ hq)) with ⟨q, hq, p, h1, h2, S', h3, h4, h5, h6⟩ | ⟨h1, h2⟩
      · exact Or.inl ⟨q, List.mem_cons_of_mem _ hq, p, h1, h2, S', h3, h4, h5, h6⟩
      · refine Or.inr ⟨h1, fun q hq p hp => ?_⟩
        rcases List.mem_cons.1 hq with rfl | hq
        · have hbit := freeP_none hf p (by omega)
          rw [hb p hp] at hbit
          by_cases hx : no q p ∈ X
          · exact hx
          · rw [if_neg hx] at hbit
            exact absurd rfl hbit
        · exact h2 q hq p hp
end Go.Proofs.YtgofmnhfajmbfaaGreatDoor.Sp

namespace Go.Proofs.YtgofmnhfajmbfaaGreatDoor.Sp
open Go Txt

theorem filter_one_more {x : Int} {r : List Int} (hx : x ∉ r) : ∀ L : List Int, L.Nodup → x ∈ L →
    (L.filter (fun y => decide (y ∈ x :: r))).length = (L.filter (fun y => decide (y ∈ r))).length + 1
  | [], _, h => by cases h
  | y :: t, hn, hm => by
    rw [List.nodup_cons] at hn
    by_cases hy : y = x
    · subst hy
      have h1 : t.filter (fun z => decide (z ∈ y :: r)) = t.filter (fun z => decide (z ∈ r)) := by
        refine List.filter_congr (fun z hz => ?_)
        have hne : z ≠ y := fun e => hn.1 (e ▸ hz)
        simp [hne]
      rw [List.filter_cons, if_pos (by simp), List.filter_cons, if_neg (by simpa using hx), List.length_cons, h1]
    · have ht : x ∈ t := (List.mem_cons.1 hm).elim (fun e => absurd e.symm hy) id
      have ih := filter_one_more hx t hn.2 ht
      by_cases hr : y ∈ r
      · rw [List.filter_cons, if_pos (by simp [hr]), List.filter_cons, if_pos (by simp [hr]), List.length_cons, List.length_cons, ih]
      · rw [List.filter_cons, if_neg (by simp [hr, hy]), List.filter_cons, if_neg (by simp [hr]), ih]
theorem filter_mem_count {L : List Int} (hL : L.Nodup) : ∀ X : List Int, X.Nodup → (∀ x ∈ X, x ∈ L) → (L.filter (fun x => decide (x ∈ X))).length = X.length
  | [], _, _ => by simp
  | x :: r, hn, hs => by
    rw [List.nodup_cons] at hn
    rw [filter_one_more hn.1 L hL (hs x (List.mem_cons_self ..)), filter_mem_count hL r hn.2 (fun y hy => hs y (List.mem_cons_of_mem _ hy)), List.length_cons]
theorem list_getD (l : List UInt8) : l = (List.range l.length).map (fun i => l.getD i 0) := by
  apply List.ext_getElem?
  intro i
  rw [List.getElem?_map]
  by_cases h : i < l.length
  · rw [List.getElem?_range h, List.getElem?_eq_getElem h]
    simp [List.getD_eq_getElem?_getD, List.getElem?_eq_getElem h]
  · rw [List.getElem?_eq_none (by omega), List.getElem?_eq_none (by simp; omega)]
    rfl
theorem onesN_bits {s : ByteArray} {n : Int} (h : mapC s n = 0) : onesN s = (List.range n.toNat).countP (fun p => bitAt s p == 1) := by
  obtain ⟨h1, h2, h3, h4⟩ := mapC_size h
  rw [mapP_iff] at h4
  have hl : s.data.toList.length = n.toNat + (64 - n.toNat) := by have : s.data.toList.length = 64 := h3; omega
  unfold onesN
  rw [List.count, list_getD s.data.toList, List.countP_map, hl, List.range_add, List.countP_append]
  have hz : List.countP ((fun x => x == (1 : UInt8)) ∘ fun i => s.data.toList.getD i 0) (List.map (fun x => n.toNat + x) (List.range (64 - n.toNat))) = 0 := by
    rw [List.countP_eq_zero]
    intro i hi
    obtain ⟨j, _, rfl⟩ := List.mem_map.1 hi
    have := (h4 (n.toNat + j)).2 (by omega)
    show ¬ ((s.data.toList.getD (n.toNat + j) 0 == 1) = true)
    rw [this]
    decide
  rw [hz, Nat.add_zero]
  rfl

/-- How many places of a group are among the numbers X. -/
def cntK (g : Geom) (b : Bool) (no : Int → Int → Int) (X : List Int) (k : Int) : Nat := (List.range (manyG g b).toNat).countP (fun p : Nat => decide (no k (p : Int) ∈ X))
theorem Taken.ones {S : Side} {g : Geom} {b : Bool} {no : Int → Int → Int} {X : List Int} (hT : Taken S g b no X) {k : Int} (hk : 0 ≤ k ∧ k < g.groups) :
    ∃ s, S.look g k b = some s ∧ onesN s = cntK g b no X k := by
  obtain ⟨s, hs, hb⟩ := hT.look k hk.1 hk.2
  refine ⟨s, hs, ?_⟩
  rw [onesN_bits (look_some hs).2.2]
  unfold cntK
  refine List.countP_congr (fun p hp => ?_)
  have hp2 := List.mem_range.1 hp
  rw [hb p (by omega)]
  by_cases hx : no k (p : Int) ∈ X
  · simp [hx]
  · simp [hx]
/-- The numbers of some groups' places. -/
def numsK (g : Geom) (b : Bool) (no : Int → Int → Int) (ks : List Int) : List Int := ks.flatMap (fun k => (List.range (manyG g b).toNat).map (fun p : Nat => no k (p : Int)))
theorem numsK_nodup {g : Geom} {b : Bool} {no : Int → Int → Int} (hn : NoInj g b no) {ks : List Int} (hk : ∀ k ∈ ks, 0 ≤ k ∧ k < g.groups) (hd : ks.Nodup) : (numsK g b no ks).Nodup := by
  unfold numsK List.Nodup
  rw [List.pairwise_flatMap]
  refine ⟨fun k hkk => ?_, ?_⟩
  · rw [List.pairwise_map]
    refine List.Pairwise.imp_of_mem (fun {p q} hp hq hne e => ?_) (List.nodup_range : (List.range (manyG g b).toNat).Nodup)
    have hp := List.mem_range.1 hp
    have hq := List.mem_range.1 hq
    have := (hn _ _ _ _ (hk k hkk) ⟨by omega, by omega⟩ (hk k hkk) ⟨by omega, by omega⟩ e).2
    omega
  · refine List.Pairwise.imp_of_mem (fun {k k'} h1 h2 hne x hx y hy e => ?_) hd
    obtain ⟨p, hp, rfl⟩ := List.mem_map.1 hx
    obtain ⟨q, hq, rfl⟩ := List.mem_map.1 hy
    have hp := List.mem_range.1 hp
    have hq := List.mem_range.1 hq
    exact hne (hn _ _ _ _ (hk k h1) ⟨by omega, by omega⟩ (hk k' h2) ⟨by omega, by omega⟩ e).1
def sumN (l : List Nat) : Nat := l.foldr (· + ·) 0
theorem filter_flat {β : Type} (p : Int → Bool) (f : β → List Int) : ∀ ks : List β, ((ks.flatMap f).filter p).length = sumN (ks.map (fun k => ((f k).filter p).length))
  | [] => rfl
  | k :: r => by
    rw [List.flatMap_cons, List.filter_append, List.length_append, filter_flat p f r]
    rfl
theorem Taken.sum {S : Side} {g : Geom} {b : Bool} {no : Int → Int → Int} {X : List Int} (hT : Taken S g b no X) (hn : NoInj g b no) {ks : List Int} (hk : ∀ k, k ∈ ks ↔ 0 ≤ k ∧ k < g.groups) (hd : ks.Nodup) :
    sumN (ks.map (cntK g b no X)) = X.length := by
  have h1 := filter_mem_count (numsK_nodup hn (fun k h => (hk k).1 h) hd) X hT.nodup (fun x hx => by
    obtain ⟨k, p, h1, h2, rfl⟩ := hT.sub x hx
    exact List.mem_flatMap.2 ⟨k, (hk k).2 h1, List.mem_map.2 ⟨p.toNat, List.mem_range.2 (by omega), by rw [Int.toNat_of_nonneg h2.1]⟩⟩)
  rw [← h1]
  unfold numsK
  rw [filter_flat]
  congr 1
  refine List.map_congr_left (fun k _ => ?_)
  unfold cntK
  rw [List.countP_eq_length_filter, List.filter_map, List.length_map]
  rfl
/-- How many are free, of all groups. -/
theorem freeL_sum {S : Side} {g : Geom} {X Y : List Int} {noI noB : Int → Int → Int} (hX : Taken S g false noI X) (hY : Taken S g true noB Y) :
    ∀ ks : List Int, (∀ k ∈ ks, 0 ≤ k ∧ k < g.groups) → S.freeL g ks = some (ks.length * g.inodes - (sumN (ks.map (cntK g false noI X)) : Nat), ks.length * g.blocks - (sumN (ks.map (cntK g true noB Y)) : Nat))
  | [], _ => by
    unfold Side.freeL sumN
    simp
  | k :: r, hk => by
    have h0 := hk k (List.mem_cons_self ..)
    obtain ⟨s, hs, h1⟩ := hX.ones h0
    obtain ⟨t, ht, h2⟩ := hY.ones h0
    have ih := freeL_sum hX hY r (fun q hq => hk q (List.mem_cons_of_mem _ hq))
    have e1 : sumN ((k :: r).map (cntK g false noI X)) = cntK g false noI X k + sumN (r.map (cntK g false noI X)) := rfl
    have e2 : sumN ((k :: r).map (cntK g true noB Y)) = cntK g true noB Y k + sumN (r.map (cntK g true noB Y)) := rfl
    unfold Side.freeL
    rw [hs, ht, ih, e1, e2]
    dsimp only
    rw [h1, h2]
    simp only [List.length_cons, Option.some.injEq, Prod.mk.injEq]
    rw [Int.natCast_add, Int.add_mul, Int.add_mul]
    constructor <;> omega
theorem free_all {S : Side} {g : Geom} (hg : g.ok) {X Y : List Int} {noI noB : Int → Int → Int} (hX : Taken S g false noI X) (hY : Taken S g true noB Y) (hi : NoInj g false noI) (hb : NoInj g true noB)
    {ks : List Int} (hk : ∀ k, k ∈ ks ↔ 0 ≤ k ∧ k < g.groups) (hd : ks.Nodup) (hl : (ks.length : Int) = g.groups) :
    S.free g ks = (g.groups * g.inodes - X.length, g.groups * g.blocks - Y.length, 0) := by
  have hw : wrongC g ks = 0 := by
    unfold wrongC
    rw [if_pos hg, if_neg]
    rintro ⟨n, hn, h⟩
    have := (hk n).1 hn
    omega
  unfold Side.free
  rw [if_pos hw, freeL_sum hX hY ks (fun k h => (hk k).1 h), hX.sum hi hk hd, hY.sum hb hk hd, hl]
end Go.Proofs.YtgofmnhfajmbfaaGreatDoor.Sp

namespace Go.Proofs.YtgofmnhfajmbfaaGreatDoor.Sp
open Go Txt

/-- A side on which just the inodes X and the blocks Y are taken, with at most r changes. -/
structure Held (S : Side) (g : Geom) (X Y : List Int) (r : Nat) : Prop where
  ok : S.Ok
  ti : Taken S g false (inodeNo g) X
  tb : Taken S g true (blockNo g) Y
  few : S.deps.l.length ≤ r
  last : S.deps.last ≤ r

def Side.inode (S : Side) (g : Geom) (ks : List Int) : Side × Int × Int × Int :=
  if (S.take g false ks).2.code = 0 then ((S.take g false ks).1, inodeNo g (S.take g false ks).2.group (S.take g false ks).2.place, (S.take g false ks).2.change, 0) else ((S.take g false ks).1, 0, 0, (S.take g false ks).2.code)
def Side.block (S : Side) (g : Geom) (ks : List Int) : Side × Int × Int × Int :=
  if (S.take g true ks).2.code = 0 then ((S.take g true ks).1, blockNo g (S.take g true ks).2.group (S.take g true ks).2.place, (S.take g true ks).2.change, 0) else ((S.take g true ks).1, 0, 0, (S.take g true ks).2.code)

theorem change_few {S : Side} {i off : Int} {b : ByteArray} {ahead : List Int} {r : Nat} (h1 : S.deps.l.length ≤ r) (h2 : S.deps.last ≤ r) : (S.change i off b ahead).deps.l.length ≤ r + 1 ∧ (S.change i off b ahead).deps.last ≤ r + 1 := by
  unfold Side.change
  split
  · dsimp only
    unfold Deps.add
    split
    · dsimp only
      rw [List.length_append, List.length_singleton]
      omega
    · omega
  · omega
theorem wrongC_zero {g : Geom} (hg : g.ok) {ks : List Int} (hk : ∀ k ∈ ks, 0 ≤ k ∧ k < g.groups) : wrongC g ks = 0 := by
  unfold wrongC
  rw [if_pos hg, if_neg]
  rintro ⟨n, hn, h⟩
  have := hk n hn
  omega
theorem manyG_ok {g : Geom} (hg : g.ok) (b : Bool) : 1 ≤ manyG g b ∧ manyG g b ≤ 64 := by
  obtain ⟨h1, h2, h3, h4, h5, h6⟩ := hg
  unfold manyG
  cases b <;> simp <;> omega
section
variable {S : Side} {g : Geom} {X Y : List Int} {r : Nat}
theorem Held.inode (h : Held S g X Y r) (hg : g.ok) (hr : r < 1024) {ks : List Int} (hk : ∀ k ∈ ks, 0 ≤ k ∧ k < g.groups) :
    (∃ k ∈ ks, ∃ p : Nat, (p : Int) < g.inodes ∧ inodeNo g k p ∉ X ∧ ∃ S' c, S.inode g ks = (S', inodeNo g k p, c, 0) ∧ Held S' g (X ++ [inodeNo g k p]) Y (r + 1)) ∨
    (S.inode g ks = (S, 0, 0, 109) ∧ ∀ k ∈ ks, ∀ p : Nat, (p : Int) < g.inodes → inodeNo g k p ∈ X) := by
  have hr2 : S.deps.l.length < 1024 := by have := h.few; omega
  have ht : S.take g false ks = S.takeL g false ks := if_pos (wrongC_zero hg hk)
  rcases takeL_cases h.ti (inodeNo_inj g) hg h.ok hr2 ks hk with ⟨k, hkk, p, hp, hx, S', h1, h2, h3, s, h4⟩ | ⟨h1, h2⟩
  · refine Or.inl ⟨k, hkk, p, hp, hx, S', S.deps.last + 1, ?_, ?_⟩
    · unfold Side.inode
      rw [ht, h1]
      exact if_pos rfl
    · subst h2
      have hf := change_few (S := S) (i := mapAtG g k false) (off := p) (b := oneB) (ahead := []) h.few h.last
      exact ⟨Side.change_ok h.ok (by have := h.last; omega), h.ti.more (inodeNo_inj g) hg h.ok (hk k hkk) h4 hp h3 hx, h.tb.other hg h.ok (by decide) h4 hp (Or.inr rfl) h3, hf.1, hf.2⟩
  · refine Or.inr ⟨?_, h2⟩
    unfold Side.inode
    rw [ht, h1]
    exact if_neg (fun h => absurd (show (109 : Int) = 0 from h) (by decide))
theorem Held.block (h : Held S g X Y r) (hg : g.ok) (hr : r < 1024) {ks : List Int} (hk : ∀ k ∈ ks, 0 ≤ k ∧ k < g.groups) :
    (∃ k ∈ ks, ∃ p : Nat, (p : Int) < g.blocks ∧ blockNo g k p ∉ Y ∧ ∃ S' c, S.block g ks = (S', blockNo g k p, c, 0) ∧ Held S' g X (Y ++ [blockNo g k p]) (r + 1)) ∨
    (S.block g ks = (S, 0, 0, 109) ∧ ∀ k ∈ ks, ∀ p : Nat, (p : Int) < g.blocks → blockNo g k p ∈ Y) := by
  have hr2 : S.deps.l.length < 1024 := by have := h.few; omega
  have ht : S.take g true ks = S.takeL g true ks := if_pos (wrongC_zero hg hk)
  rcases takeL_cases h.tb (blockNo_inj hg) hg h.ok hr2 ks hk with ⟨k, hkk, p, hp, hx, S', h1, h2, h3, s, h4⟩ | ⟨h1, h2⟩
  · refine Or.inl ⟨k, hkk, p, hp, hx, S', S.deps.last + 1, ?_, ?_⟩
    · unfold Side.block
      rw [ht, h1]
      exact if_pos rfl
    · subst h2
      have hf := change_few (S := S) (i := mapAtG g k true) (off := p) (b := oneB) (ahead := []) h.few h.last
      exact ⟨Side.change_ok h.ok (by have := h.last; omega), h.ti.other hg h.ok (by decide) h4 hp (Or.inr rfl) h3, h.tb.more (blockNo_inj hg) hg h.ok (hk k hkk) h4 hp h3 hx, hf.1, hf.2⟩
  · refine Or.inr ⟨?_, h2⟩
    unfold Side.block
    rw [ht, h1]
    exact if_neg (fun h => absurd (show (109 : Int) = 0 from h) (by decide))
theorem inodeC_no {g : Geom} (hg : g.ok) {n : Int} (h1 : 1 ≤ n) (h2 : n ≤ g.groups * g.inodes) : inodeC g n = 0 ∧ (0 ≤ (n - 1) / g.inodes ∧ (n - 1) / g.inodes < g.groups) ∧ (0 ≤ (n - 1) % g.inodes ∧ (n - 1) % g.inodes < g.inodes) ∧ inodeNo g ((n - 1) / g.inodes) ((n - 1) % g.inodes) = n := by
  have hi : 0 < g.inodes := hg.2.2.1
  refine ⟨?_, ⟨Int.ediv_nonneg (by omega) (by omega), Int.ediv_lt_of_lt_mul hi (by omega)⟩, ⟨Int.emod_nonneg _ (by omega), Int.emod_lt_of_pos _ hi⟩, ?_⟩
  · unfold inodeC
    rw [if_pos hg, if_neg (by omega)]
  · unfold inodeNo
    have := Int.mul_ediv_add_emod (n - 1) g.inodes
    rw [Int.mul_comm] at this
    omega
theorem filter_none {X : List Int} {n : Int} (h : n ∉ X) : X.filter (fun x => decide (x ≠ n)) = X := by
  rw [List.filter_eq_self]
  intro x hx
  exact decide_eq_true (fun e => h (e ▸ hx))
theorem ahead_ok {S : Side} {g : Geom} (hS : S.Ok) {k : Int} {b : Bool} {s : ByteArray} (h : S.look g k b = some s) {p : Nat} (hp : (p : Int) < manyG g b) (hr : S.deps.l.length < 1024) : S.changeC (mapAtG g k b) p zeroB [] = 0 := change_ok0 hS h hp 0 hr
theorem Held.freeInode (h : Held S g X Y r) (hg : g.ok) (hr : r < 1024) {n : Int} (h1 : 1 ≤ n) (h2 : n ≤ g.groups * g.inodes) :
    ∃ S' c e, S.freeInode g n [] = (S', c, e) ∧ (e = 0 ∨ e = 120) ∧ (e = 0 ↔ n ∈ X) ∧ Held S' g (X.filter (fun x => decide (x ≠ n))) Y (r + 1) := by
  obtain ⟨hc, hk, hp, hn⟩ := inodeC_no hg h1 h2
  obtain ⟨k, hkd⟩ : ∃ k, (n - 1) / g.inodes = k := ⟨_, rfl⟩
  obtain ⟨p, hpd⟩ : ∃ p, (n - 1) % g.inodes = p := ⟨_, rfl⟩
  rw [hkd, hpd] at hn
  rw [hkd] at hk
  rw [hpd] at hp
  obtain ⟨q, rfl⟩ : ∃ q : Nat, p = (q : Int) := ⟨p.toNat, by omega⟩
  obtain ⟨s, hs, hb⟩ := h.ti.look k hk.1 hk.2
  have hbit := hb q hp.2
  have hr2 : S.deps.l.length < 1024 := by have := h.few; omega
  have h3 := ahead_ok h.ok hs (b := false) hp.2 hr2
  unfold Side.freeInode
  rw [if_pos hc, hkd, hpd]
  unfold Side.give
  rw [hs]
  dsimp only
  rw [hn] at hbit
  by_cases hx : n ∈ X
  · rw [if_pos hx] at hbit
    rw [if_pos ⟨hp.1, hp.2, hbit⟩]
    refine ⟨_, _, _, rfl, Or.inl h3, ⟨fun _ => hx, fun _ => h3⟩, ?_⟩
    have hf := change_few (S := S) (i := mapAtG g k false) (off := q) (b := zeroB) (ahead := []) h.few h.last
    have hl := h.ti.less (inodeNo_inj g) hg h.ok hk hs hp.2 h3
    rw [hn] at hl
    exact ⟨Side.change_ok h.ok (by have := h.last; omega), hl, h.tb.other hg h.ok (by decide) hs hp.2 (Or.inl rfl) h3, hf.1, hf.2⟩
  · rw [if_neg hx] at hbit
    have hbit2 : s.data.toList.getD (q : Int).toNat 0 = 0 := hbit
    rw [if_neg (by rw [hbit2]; exact fun h => absurd h.2.2 (by decide))]
    refine ⟨_, _, _, rfl, Or.inr rfl, ⟨fun h => absurd h (by decide), fun h => absurd h hx⟩, ?_⟩
    rw [filter_none hx]
    exact ⟨h.ok, h.ti, h.tb, by have := h.few; omega, by have := h.last; omega⟩
theorem block_kind {g : Geom} (hg : g.ok) {k p : Int} (hk : 0 ≤ k ∧ k < g.groups) (hp : 0 ≤ p ∧ p < g.blocks) : 0 ≤ blockNo g k p ∧ blockNo g k p < g.size ∧ g.kind (blockNo g k p) = (6, k * g.blocks + p) := by
  have hl : g.long = 2 + g.inodes + g.blocks := rfl
  have h0 := Geom.first_bd hg (k := 0) (by omega) (by omega)
  have hi := hg.2.2.1
  have hlp := Geom.long_bd hg
  have hat : blockNo g k p - g.first 0 = (2 + g.inodes + p) + k * g.long := by
    unfold blockNo Geom.first
    omega
  have hkl : 0 ≤ k * g.long := Int.mul_nonneg hk.1 (by omega)
  have hq : (blockNo g k p - g.first 0) / g.long = k := by
    rw [hat, Int.add_mul_ediv_right _ _ (by omega), Int.ediv_eq_zero_of_lt (by omega) (by omega)]
    omega
  have hm : (blockNo g k p - g.first 0) % g.long = 2 + g.inodes + p := by
    rw [hat, Int.add_mul_emod_self_right, Int.emod_eq_of_lt (by omega) (by omega)]
  have hs : (k + 1) * g.long ≤ g.groups * g.long := Int.mul_le_mul_of_nonneg_right (by omega) (by omega)
  rw [Int.add_mul] at hs
  refine ⟨by omega, ?_, ?_⟩
  · rw [Geom.size_ok hg]
    have : g.first g.groups = g.first 0 + g.groups * g.long := by unfold Geom.first; omega
    omega
  · unfold Geom.kind
    rw [if_neg (by omega), hm, if_pos (by omega), hq]
    congr 1
    omega
theorem Held.freeBlock (h : Held S g X Y r) (hg : g.ok) (hr : r < 1024) {k p : Int} (hk : 0 ≤ k ∧ k < g.groups) (hp : 0 ≤ p ∧ p < g.blocks) :
    ∃ S' c e, S.freeBlock g (blockNo g k p) [] = (S', c, e) ∧ (e = 0 ∨ e = 120) ∧ (e = 0 ↔ blockNo g k p ∈ Y) ∧ Held S' g X (Y.filter (fun x => decide (x ≠ blockNo g k p))) (r + 1) := by
  obtain ⟨hb0, hb1, hkd⟩ := block_kind hg hk hp
  have hc : blockC g (blockNo g k p) = 0 := by
    unfold blockC
    rw [if_pos hg, if_neg (by omega), hkd, if_pos rfl]
  have hbk : 0 < g.blocks := hg.2.2.2.2.1
  obtain ⟨q, rfl⟩ : ∃ q : Nat, p = (q : Int) := ⟨p.toNat, by omega⟩
  have e1 : (k * g.blocks + (q : Int)) / g.blocks = k := by rw [Int.add_comm, Int.add_mul_ediv_right _ _ (by omega), Int.ediv_eq_zero_of_lt hp.1 hp.2]; omega
  have e2 : (k * g.blocks + (q : Int)) % g.blocks = q := by rw [Int.add_comm, Int.add_mul_emod_self_right, Int.emod_eq_of_lt hp.1 hp.2]
  obtain ⟨s, hs, hb⟩ := h.tb.look k hk.1 hk.2
  have hbit := hb q hp.2
  have hr2 : S.deps.l.length < 1024 := by have := h.few; omega
  have h3 := ahead_ok h.ok hs (b := true) hp.2 hr2
  unfold Side.freeBlock
  rw [if_pos hc, hkd]
  dsimp only
  rw [e1, e2]
  unfold Side.give
  rw [hs]
  dsimp only
  by_cases hx : blockNo g k q ∈ Y
  · rw [if_pos hx] at hbit
    rw [if_pos ⟨hp.1, hp.2, hbit⟩]
    refine ⟨_, _, _, rfl, Or.inl h3, ⟨fun _ => hx, fun _ => h3⟩, ?_⟩
    have hf := change_few (S := S) (i := mapAtG g k true) (off := q) (b := zeroB) (ahead := []) h.few h.last
    exact ⟨Side.change_ok h.ok (by have := h.last; omega), h.ti.other hg h.ok (by decide) hs hp.2 (Or.inl rfl) h3, h.tb.less (blockNo_inj hg) hg h.ok hk hs hp.2 h3, hf.1, hf.2⟩
  · rw [if_neg hx] at hbit
    have hbit2 : s.data.toList.getD (q : Int).toNat 0 = 0 := hbit
    rw [if_neg (by rw [hbit2]; exact fun h => absurd h.2.2 (by decide))]
    refine ⟨_, _, _, rfl, Or.inr rfl, ⟨fun h => absurd h (by decide), fun h => absurd h hx⟩, ?_⟩
    rw [filter_none hx]
    exact ⟨h.ok, h.ti, h.tb, by have := h.few; omega, by have := h.last; omega⟩
end
end Go.Proofs.YtgofmnhfajmbfaaGreatDoor.Sp

namespace Go.Proofs.YtgofmnhfajmbfaaGreatDoor.Sp
open Go Txt

def freshSide (g : Geom) (node epoch : Int) : Side := ⟨⟨formatL g, [], 0⟩, ⟨[], 0⟩, node, epoch, []⟩
def secAt (g : Geom) (i : Int) : ByteArray := if i = 0 then superB g else if i = 1 then wallB 0 0 else if i = g.first 0 then ofL (1 :: zeros 63) else if i = g.first 0 + 2 then inodeB rootN else blank
theorem padL_size (l : List UInt8) (h : l.length ≤ 64) : (ofL (padL l)).size = 64 := by
  rw [Lib.size_eq, ofL_data]
  unfold padL
  rw [List.length_append, zeros_length]
  omega
theorem secAt_size (g : Geom) (i : Int) : (secAt g i).size = 64 := by
  unfold secAt
  split
  · unfold superB; exact padL_size _ (by simp)
  · split
    · unfold wallB; exact padL_size _ (by simp [textL_length])
    · split
      · rw [Lib.size_eq, ofL_data]; simp [zeros_length]
      · split
        · decide +kernel
        · unfold blank; rw [Lib.size_eq, ofL_data, zeros_length]
theorem formatL_length (g : Geom) : (formatL g).length = g.size.toNat := by unfold formatL; simp
theorem formatL_at (g : Geom) {i : Nat} (h : i < g.size.toNat) : (formatL g)[i]? = some (secAt g i) := by
  unfold formatL
  rw [List.getElem?_map, List.getElem?_range h, Option.map_some]
  unfold secAt
  congr 1
  by_cases h0 : i = 0
  · subst h0; rfl
  · rw [if_neg h0, if_neg (show ¬ (i : Int) = 0 by omega)]
    by_cases h1 : i = 1
    · subst h1; rfl
    · rw [if_neg h1, if_neg (show ¬ (i : Int) = 1 by omega)]
section
variable {g : Geom} {node epoch : Int}
theorem fresh_ok (hg : g.ok) : (freshSide g node epoch).Ok := by
  have hz := Geom.size_bd hg
  refine ⟨⟨by simp [freshSide], by simp [freshSide], by simp [freshSide], by simp [freshSide], by simp [freshSide], by simp [freshSide]⟩, ?_, ?_⟩
  · intro s hs
    obtain ⟨i, hi⟩ := List.getElem?_of_mem hs
    have hl := (List.getElem?_eq_some_iff.1 hi).1
    have hi2 : (formatL g)[i]? = some s := hi
    have hl2 : i < g.size.toNat := by rw [← formatL_length]; exact hl
    rw [formatL_at g hl2] at hi2
    rw [← Option.some.inj hi2]
    exact secAt_size g i
  · show (formatL g).length ≤ 2048
    rw [formatL_length]
    omega
theorem fresh_read {i : Int} (h0 : 0 ≤ i) (h1 : i < g.size) : (freshSide g node epoch).disk.has i ∧ (freshSide g node epoch).read i = secAt g i := by
  have hh : (freshSide g node epoch).disk.has i := ⟨h0, by show i < ((formatL g).length : Int); rw [formatL_length]; omega⟩
  refine ⟨hh, ?_⟩
  have hget : (freshSide g node epoch).disk.get i = secAt g i := by
    show (formatL g).getD i.toNat ⟨#[]⟩ = _
    rw [List.getD_eq_getElem?_getD, formatL_at g (by omega), Int.toNat_of_nonneg h0]
    rfl
  unfold Side.read
  rw [if_pos hh, hget]
  unfold Deps.view
  rw [if_pos (secAt_size g i)]
  show ofL (patchedL _ []) = _
  unfold patchedL
  exact data_ofL _
theorem map_in (hg : g.ok) {k : Int} (hk : 0 ≤ k ∧ k < g.groups) (b : Bool) : 0 ≤ mapAtG g k b ∧ mapAtG g k b < g.size ∧ secAt g (mapAtG g k b) = if k = 0 ∧ b = false then ofL (1 :: zeros 63) else blank := by
  have h0 := Geom.first_bd hg (k := 0) (by omega) (by omega)
  have hl := Geom.long_bd hg
  have hkl : 0 ≤ k * g.long := Int.mul_nonneg hk.1 (by omega)
  have hs : (k + 1) * g.long ≤ g.groups * g.long := Int.mul_le_mul_of_nonneg_right (by omega) (by omega)
  rw [Int.add_mul] at hs
  have hf : g.first k = g.first 0 + k * g.long := by unfold Geom.first; omega
  have hz : g.size = g.first 0 + g.groups * g.long := by rw [Geom.size_ok hg]; unfold Geom.first; omega
  have hk1 : k ≠ 0 → g.long ≤ k * g.long := fun h => by
    have := Int.mul_le_mul_of_nonneg_right (show 1 ≤ k by omega) (show 0 ≤ g.long by omega)
    omega
  unfold mapAtG secAt
  have hb : (if b then (1 : Int) else 0) = 0 ∧ b = false ∨ (if b then (1 : Int) else 0) = 1 ∧ b = true := by cases b <;> simp
  have hk0 : k = 0 → k * g.long = 0 := fun h => by rw [h, Int.zero_mul]
  rcases hb with ⟨hb, rfl⟩ | ⟨hb, rfl⟩
  · rw [hb]
    refine ⟨by omega, by omega, ?_⟩
    rw [if_neg (by omega), if_neg (by omega)]
    by_cases hk0' : k = 0
    · have := hk0 hk0'
      rw [if_pos (by omega), if_pos ⟨hk0', rfl⟩]
    · have := hk1 hk0'
      rw [if_neg (by omega), if_neg (by omega), if_neg (fun h => hk0' h.1)]
  · rw [hb]
    refine ⟨by omega, by omega, ?_⟩
    have h3 : g.first k + 1 ≠ g.first 0 ∧ g.first k + 1 ≠ g.first 0 + 2 := by
      by_cases hk0' : k = 0
      · have := hk0 hk0'; omega
      · have := hk1 hk0'; omega
    rw [if_neg (by omega), if_neg (by omega), if_neg h3.1, if_neg h3.2, if_neg (fun h => absurd h.2 (by decide))]
theorem bit_blank (p : Nat) : bitAt blank p = 0 := by
  unfold bitAt blank zeros
  rw [ofL_data, List.getD_eq_getElem?_getD, List.getElem?_replicate]
  split <;> rfl
theorem bit_first (p : Nat) : bitAt (ofL (1 :: zeros 63)) p = if p = 0 then 1 else 0 := by
  unfold bitAt zeros
  rw [ofL_data]
  cases p with
  | zero => rfl
  | succ p =>
    rw [if_neg (show ¬ p + 1 = 0 by omega), List.getD_cons_succ, List.getD_eq_getElem?_getD, List.getElem?_replicate]
    split <;> rfl
theorem map_blank {n : Int} (h : 1 ≤ n ∧ n ≤ 64) : mapC blank n = 0 := by
  unfold mapC
  rw [if_neg (by omega), if_pos]
  refine ⟨by unfold blank; rw [Lib.size_eq, ofL_data, zeros_length], ?_⟩
  rw [mapP_iff]
  intro i
  have := bit_blank i
  unfold bitAt at this
  rw [this]
  exact ⟨fun _ => Or.inl rfl, fun _ => rfl⟩
theorem map_first {n : Int} (h : 1 ≤ n ∧ n ≤ 64) : mapC (ofL (1 :: zeros 63)) n = 0 := by
  unfold mapC
  rw [if_neg (by omega), if_pos]
  refine ⟨by rw [Lib.size_eq, ofL_data]; simp [zeros_length], ?_⟩
  rw [mapP_iff]
  intro i
  have := bit_first i
  unfold bitAt at this
  rw [this]
  by_cases hi : i = 0
  · rw [if_pos hi]
    exact ⟨fun _ => Or.inr rfl, fun hn => by omega⟩
  · rw [if_neg hi]
    exact ⟨fun _ => Or.inl rfl, fun _ => rfl⟩
theorem fresh_look (hg : g.ok) {k : Int} (hk : 0 ≤ k ∧ k < g.groups) (b : Bool) : (freshSide g node epoch).look g k b = some (if k = 0 ∧ b = false then ofL (1 :: zeros 63) else blank) := by
  obtain ⟨h0, h1, h2⟩ := map_in hg hk b
  obtain ⟨h3, h4⟩ := fresh_read (node := node) (epoch := epoch) h0 h1
  unfold Side.look
  rw [h4, h2]
  refine if_pos ⟨h3, ?_⟩
  split
  · exact map_first (manyG_ok hg b)
  · exact map_blank (manyG_ok hg b)
theorem inodeNo_one (hg : g.ok) {k p : Int} (hk : 0 ≤ k ∧ k < g.groups) (hp : 0 ≤ p ∧ p < g.inodes) : inodeNo g k p = 1 ↔ k = 0 ∧ p = 0 := by
  constructor
  · intro h
    have hi := hg.2.2.1
    have h0 : inodeNo g 0 0 = 1 := by unfold inodeNo; omega
    exact inodeNo_inj g _ _ _ _ hk hp ⟨by omega, by have := hg.1; omega⟩ ⟨by omega, by show (0 : Int) < g.inodes; omega⟩ (h.trans h0.symm)
  · rintro ⟨rfl, rfl⟩
    unfold inodeNo
    omega
theorem fresh_held (hg : g.ok) : Held (freshSide g node epoch) g [1] [] 0 := by
  have hi := hg.2.2.1
  refine ⟨fresh_ok hg, ⟨fun k h0 h1 => ⟨_, fresh_look hg ⟨h0, h1⟩ false, fun p hp => ?_⟩, ?_, by simp⟩, ⟨fun k h0 h1 => ⟨_, fresh_look hg ⟨h0, h1⟩ true, fun p hp => ?_⟩, by simp, by simp⟩, by simp [freshSide], by simp [freshSide]⟩
  · have hm : inodeNo g k p ∈ [(1 : Int)] ↔ k = 0 ∧ p = 0 := by
      rw [List.mem_singleton, inodeNo_one hg ⟨h0, h1⟩ ⟨by omega, hp⟩]
      omega
    simp only [hm]
    by_cases hk : k = 0
    · rw [if_pos ⟨hk, trivial⟩, bit_first]
      simp [hk]
    · rw [if_neg (fun h => hk h.1), bit_blank, if_neg (fun h => hk h.1)]
  · intro x hx
    rw [List.mem_singleton] at hx
    exact ⟨0, 0, ⟨by omega, by have := hg.1; omega⟩, ⟨by omega, by show (0 : Int) < g.inodes; omega⟩, by rw [hx]; unfold inodeNo; omega⟩
  · rw [if_neg (fun h => absurd h.2 (by decide)), bit_blank]
    simp
/-- All is taken, if as many are as there are. -/
theorem Taken.le {S : Side} {b : Bool} {no : Int → Int → Int} {X : List Int} (hT : Taken S g b no X) (hn : NoInj g b no) {ks : List Int} (hk : ∀ k, k ∈ ks ↔ 0 ≤ k ∧ k < g.groups) (hd : ks.Nodup) :
    X.length ≤ (numsK g b no ks).length ∧ (X.length = (numsK g b no ks).length → ∀ x ∈ numsK g b no ks, x ∈ X) := by
  have h1 := filter_mem_count (numsK_nodup hn (fun k h => (hk k).1 h) hd) X hT.nodup (fun x hx => by
    obtain ⟨k, p, h1, h2, rfl⟩ := hT.sub x hx
    exact List.mem_flatMap.2 ⟨k, (hk k).2 h1, List.mem_map.2 ⟨p.toNat, List.mem_range.2 (by omega), by rw [Int.toNat_of_nonneg h2.1]⟩⟩)
  refine ⟨h1 ▸ List.length_filter_le _ _, fun he x hx => ?_⟩
  rw [he, List.length_filter_eq_length_iff] at h1
  simpa using h1 x hx
theorem numsK_length (g : Geom) (b : Bool) (no : Int → Int → Int) : ∀ ks : List Int, (numsK g b no ks).length = ks.length * (manyG g b).toNat
  | [] => by simp [numsK]
  | k :: r => by
    have := numsK_length g b no r
    unfold numsK at this ⊢
    rw [List.flatMap_cons, List.length_append, this, List.length_map, List.length_range, List.length_cons, Nat.succ_mul]
    omega
theorem mem_nums {b : Bool} {no : Int → Int → Int} {ks : List Int} {k : Int} (hk : k ∈ ks) {p : Nat} (hp : (p : Int) < manyG g b) : no k p ∈ numsK g b no ks :=
  List.mem_flatMap.2 ⟨k, hk, List.mem_map.2 ⟨p, List.mem_range.2 (by omega), rfl⟩⟩
end
end Go.Proofs.YtgofmnhfajmbfaaGreatDoor.Sp
