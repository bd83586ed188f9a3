/-
  Layer 15: a side of an empty file system: just the root is taken; and what it is that all is taken. No program in this text.
-/
import Derived.Test.YtghafpdmcbockaaGreatDoorSpTook
import Derived.Test.YtghafpdmcbockaaGreatDoorSpA
namespace Go.Proofs.YtghafpdmcbockaaGreatDoor.Sp
open Go Txt

def freshSide (g : Geom) (node epoch : Int) : Side := ⟨⟨formatL g, [], 0⟩, ⟨[], 0⟩, node, epoch, []⟩
def secAt (g : Geom) (i : Int) : ByteArray := if i = 0 then superB g else if i = 1 then wallB 0 0 else if i = g.first 0 then ofL (1 :: zeros 63) else if i = g.first 0 + 2 then inodeB rootN else blank
theorem padL_size (l : List UInt8) (h : l.length ≤ 64) : (ofL (padL l)).size = 64 := by
  rw [Lib.size_eq, ofL_data]
  unfold padL
  rw [List.length_append, zeros_length]
  omega
theorem secAt_size (g : Geom) (i : Int) : (secAt g i).size = 64 := by
  unfold secAt
  split
  · unfold superB; exact padL_size _ (by simp)
  · split
    · unfold wallB; exact padL_size _ (by simp [textL_length])
    · split
      · rw [Lib.size_eq, ofL_data]; simp [zeros_length]
      · split
        · decide +kernel
        · unfold blank; rw [Lib.size_eq, ofL_data, zeros_length]
theorem formatL_length (g : Geom) : (formatL g).length = g.size.toNat := by unfold formatL; simp
theorem formatL_at (g : Geom) {i : Nat} (h : i < g.size.toNat) : (formatL g)[i]? = some (secAt g i) := by
  unfold formatL
  rw [List.getElem?_map, List.getElem?_range h, Option.map_some]
  unfold secAt
  congr 1
  by_cases h0 : i = 0
  · subst h0; rfl
  · rw [if_neg h0, if_neg (show ¬ (i : Int) = 0 by omega)]
    by_cases h1 : i = 1
    · subst h1; rfl
    · rw [if_neg h1, if_neg (show ¬ (i : Int) = 1 by omega)]
section
variable {g : Geom} {node epoch : Int}
theorem fresh_ok (hg : g.ok) : (freshSide g node epoch).Ok := by
  have hz := Geom.size_bd hg
  refine ⟨⟨by simp [freshSide], by simp [freshSide], by simp [freshSide], by simp [freshSide], by simp [freshSide], by simp [freshSide]⟩, ?_, ?_⟩
  · intro s hs
    obtain ⟨i, hi⟩ := List.getElem?_of_mem hs
    have hl := (List.getElem?_eq_some_iff.1 hi).1
    have hi2 : (formatL g)[i]? = some s := hi
    have hl2 : i < g.size.toNat := by rw [← formatL_length]; exact hl
    rw [formatL_at g hl2] at hi2
    rw [← Option.some.inj hi2]
    exact secAt_size g i
  · show (formatL g).length ≤ 2048
    rw [formatL_length]
    omega
theorem fresh_read {i : Int} (h0 : 0 ≤ i) (h1 : i < g.size) : (freshSide g node epoch).disk.has i ∧ (freshSide g node epoch).read i = secAt g i := by
  have hh : (freshSide g node epoch).disk.has i := ⟨h0, by show i < ((formatL g).length : Int); rw [formatL_length]; omega⟩
  refine ⟨hh, ?_⟩
  have hget : (freshSide g node epoch).disk.get i = secAt g i := by
    show (formatL g).getD i.toNat ⟨#[]⟩ = _
    rw [List.getD_eq_getElem?_getD, formatL_at g (by omega), Int.toNat_of_nonneg h0]
    rfl
  unfold Side.read
  rw [if_pos hh, hget]
  unfold Deps.view
  rw [if_pos (secAt_size g i)]
  show ofL (patchedL _ []) = _
  unfold patchedL
  exact data_ofL _
theorem map_in (hg : g.ok) {k : Int} (hk : 0 ≤ k ∧ k < g.groups) (b : Bool) : 0 ≤ mapAtG g k b ∧ mapAtG g k b < g.size ∧ secAt g (mapAtG g k b) = if k = 0 ∧ b = false then ofL (1 :: zeros 63) else blank := by
  have h0 := Geom.first_bd hg (k := 0) (by omega) (by omega)
  have hl := Geom.long_bd hg
  have hkl : 0 ≤ k * g.long := Int.mul_nonneg hk.1 (by omega)
  have hs : (k + 1) * g.long ≤ g.groups * g.long := Int.mul_le_mul_of_nonneg_right (by omega) (by omega)
  rw [Int.add_mul] at hs
  have hf : g.first k = g.first 0 + k * g.long := by unfold Geom.first; omega
  have hz : g.size = g.first 0 + g.groups * g.long := by rw [Geom.size_ok hg]; unfold Geom.first; omega
  have hk1 : k ≠ 0 → g.long ≤ k * g.long := fun h => by
    have := Int.mul_le_mul_of_nonneg_right (show 1 ≤ k by omega) (show 0 ≤ g.long by omega)
    omega
  unfold mapAtG secAt
  have hb : (if b then (1 : Int) else 0) = 0 ∧ b = false ∨ (if b then (1 : Int) else 0) = 1 ∧ b = true := by cases b <;> simp
  have hk0 : k = 0 → k * g.long = 0 := fun h => by rw [h, Int.zero_mul]
  rcases hb with ⟨hb, rfl⟩ | ⟨hb, rfl⟩
  · rw [hb]
    refine ⟨by omega, by omega, ?_⟩
    rw [if_neg (by omega), if_neg (by omega)]
    by_cases hk0' : k = 0
    · have := hk0 hk0'
      rw [if_pos (by omega), if_pos ⟨hk0', rfl⟩]
    · have := hk1 hk0'
      rw [if_neg (by omega), if_neg (by omega), if_neg (fun h => hk0' h.1)]
  · rw [hb]
    refine ⟨by omega, by omega, ?_⟩
    have h3 : g.first k + 1 ≠ g.first 0 ∧ g.first k + 1 ≠ g.first 0 + 2 := by
      by_cases hk0' : k = 0
      · have := hk0 hk0'; omega
      · have := hk1 hk0'; omega
    rw [if_neg (by omega), if_neg (by omega), if_neg h3.1, if_neg h3.2, if_neg (fun h => absurd h.2 (by decide))]
theorem bit_blank (p : Nat) : bitAt blank p = 0 := by
  unfold bitAt blank zeros
  rw [ofL_data, List.getD_eq_getElem?_getD, List.getElem?_replicate]
  split <;> rfl
theorem bit_first (p : Nat) : bitAt (ofL (1 :: zeros 63)) p = if p = 0 then 1 else 0 := by
  unfold bitAt zeros
  rw [ofL_data]
  cases p with
  | zero => rfl
  | succ p =>
    rw [if_neg (show ¬ p + 1 = 0 by omega), List.getD_cons_succ, List.getD_eq_getElem?_getD, List.getElem?_replicate]
    split <;> rfl
theorem map_blank {n : Int} (h : 1 ≤ n ∧ n ≤ 64) : mapC blank n = 0 := by
  unfold mapC
  rw [if_neg (by omega), if_pos]
  refine ⟨by unfold blank; rw [Lib.size_eq, ofL_data, zeros_length], ?_⟩
  rw [mapP_iff]
  intro i
  have := bit_blank i
  unfold bitAt at this
  rw [this]
  exact ⟨fun _ => Or.inl rfl, fun _ => rfl⟩
theorem map_first {n : Int} (h : 1 ≤ n ∧ n ≤ 64) : mapC (ofL (1 :: zeros 63)) n = 0 := by
  unfold mapC
  rw [if_neg (by omega), if_pos]
  refine ⟨by rw [Lib.size_eq, ofL_data]; simp [zeros_length], ?_⟩
  rw [mapP_iff]
  intro i
  have := bit_first i
  unfold bitAt at this
  rw [this]
  by_cases hi : i = 0
  · rw [if_pos hi]
    exact ⟨fun _ => Or.inr rfl, fun hn => by omega⟩
  · rw [if_neg hi]
    exact ⟨fun _ => Or.inl rfl, fun _ => rfl⟩
theorem fresh_look (hg : g.ok) {k : Int} (hk : 0 ≤ k ∧ k < g.groups) (b : Bool) : (freshSide g node epoch).look g k b = some (if k = 0 ∧ b = false then ofL (1 :: zeros 63) else blank) := by
  obtain ⟨h0, h1, h2⟩ := map_in hg hk b
  obtain ⟨h3, h4⟩ := fresh_read (node := node) (epoch := epoch) h0 h1
  unfold Side.look
  rw [h4, h2]
  refine if_pos ⟨h3, ?_⟩
  split
  · exact map_first (manyG_ok hg b)
  · exact map_blank (manyG_ok hg b)
theorem inodeNo_one (hg : g.ok) {k p : Int} (hk : 0 ≤ k ∧ k < g.groups) (hp : 0 ≤ p ∧ p < g.inodes) : inodeNo g k p = 1 ↔ k = 0 ∧ p = 0 := by
  constructor
  · intro h
    have hi := hg.2.2.1
    have h0 : inodeNo g 0 0 = 1 := by unfold inodeNo; omega
    exact inodeNo_inj g _ _ _ _ hk hp ⟨by omega, by have := hg.1; omega⟩ ⟨by omega, by show (0 : Int) < g.inodes; omega⟩ (h.trans h0.symm)
  · rintro ⟨rfl, rfl⟩
    unfold inodeNo
    omega
theorem fresh_held (hg : g.ok) : Held (freshSide g node epoch) g [1] [] 0 := by
  have hi := hg.2.2.1
  refine ⟨fresh_ok hg, ⟨fun k h0 h1 => ⟨_, fresh_look hg ⟨h0, h1⟩ false, fun p hp => ?_⟩, ?_, by simp⟩, ⟨fun k h0 h1 => ⟨_, fresh_look hg ⟨h0, h1⟩ true, fun p hp => ?_⟩, by simp, by simp⟩, by simp [freshSide], by simp [freshSide]⟩
  · have hm : inodeNo g k p ∈ [(1 : Int)] ↔ k = 0 ∧ p = 0 := by
      rw [List.mem_singleton, inodeNo_one hg ⟨h0, h1⟩ ⟨by omega, hp⟩]
      omega
    simp only [hm]
    by_cases hk : k = 0
    · rw [if_pos ⟨hk, trivial⟩, bit_first]
      simp [hk]
    · rw [if_neg (fun h => hk h.1), bit_blank, if_neg (fun h => hk h.1)]
  · intro x hx
    rw [List.mem_singleton] at hx
    exact ⟨0, 0, ⟨by omega, by have := hg.1; omega⟩, ⟨by omega, by show (0 : Int) < g.inodes; omega⟩, by rw [hx]; unfold inodeNo; omega⟩
  · rw [if_neg (fun h => absurd h.2 (by decide)), bit_blank]
    simp
/-- All is taken, if as many are as there are. -/
theorem Taken.le {S : Side} {b : Bool} {no : Int → Int → Int} {X : List Int} (hT : Taken S g b no X) (hn : NoInj g b no) {ks : List Int} (hk : ∀ k, k ∈ ks ↔ 0 ≤ k ∧ k < g.groups) (hd : ks.Nodup) :
    X.length ≤ (numsK g b no ks).length ∧ (X.length = (numsK g b no ks).length → ∀ x ∈ numsK g b no ks, x ∈ X) := by
  have h1 := filter_mem_count (numsK_nodup hn (fun k h => (hk k).1 h) hd) X hT.nodup (fun x hx => by
    obtain ⟨k, p, h1, h2, rfl⟩ := hT.sub x hx
    exact List.mem_flatMap.2 ⟨k, (hk k).2 h1, List.mem_map.2 ⟨p.toNat, List.mem_range.2 (by omega), by rw [Int.toNat_of_nonneg h2.1]⟩⟩)
  refine ⟨h1 ▸ List.length_filter_le _ _, fun he x hx => ?_⟩
  rw [he, List.length_filter_eq_length_iff] at h1
  simpa using h1 x hx
theorem numsK_length (g : Geom) (b : Bool) (no : Int → Int → Int) : ∀ ks : List Int, (numsK g b no ks).length = ks.length * (manyG g b).toNat
  | [] => by simp [numsK]
  | k :: r => by
    have := numsK_length g b no r
    unfold numsK at this ⊢
    rw [List.flatMap_cons, List.length_append, this, List.length_map, List.length_range, List.length_cons, Nat.succ_mul]
    omega
theorem mem_nums {b : Bool} {no : Int → Int → Int} {ks : List Int} {k : Int} (hk : k ∈ ks) {p : Nat} (hp : (p : Int) < manyG g b) : no k p ∈ numsK g b no ks :=
  List.mem_flatMap.2 ⟨k, hk, List.mem_map.2 ⟨p, List.mem_range.2 (by omega), rfl⟩⟩
end
end Go.Proofs.YtghafpdmcbockaaGreatDoor.Sp
