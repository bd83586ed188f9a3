/-
  Layer 15: how many places are free, where just the numbers of a list are taken. No program in this text.
-/
import Derived.Test.YtghafpdmcbockaaGreatDoorSpTaken
namespace Go.Proofs.YtghafpdmcbockaaGreatDoor.Sp
open Go Txt

theorem filter_one_more {x : Int} {r : List Int} (hx : x ∉ r) : ∀ L : List Int, L.Nodup → x ∈ L →
    (L.filter (fun y => decide (y ∈ x :: r))).length = (L.filter (fun y => decide (y ∈ r))).length + 1
  | [], _, h => by cases h
  | y :: t, hn, hm => by
    rw [List.nodup_cons] at hn
    by_cases hy : y = x
    · subst hy
      have h1 : t.filter (fun z => decide (z ∈ y :: r)) = t.filter (fun z => decide (z ∈ r)) := by
        refine List.filter_congr (fun z hz => ?_)
        have hne : z ≠ y := fun e => hn.1 (e ▸ hz)
        simp [hne]
      rw [List.filter_cons, if_pos (by simp), List.filter_cons, if_neg (by simpa using hx), List.length_cons, h1]
    · have ht : x ∈ t := (List.mem_cons.1 hm).elim (fun e => absurd e.symm hy) id
      have ih := filter_one_more hx t hn.2 ht
      by_cases hr : y ∈ r
      · rw [List.filter_cons, if_pos (by simp [hr]), List.filter_cons, if_pos (by simp [hr]), List.length_cons, List.length_cons, ih]
      · rw [List.filter_cons, if_neg (by simp [hr, hy]), List.filter_cons, if_neg (by simp [hr]), ih]
theorem filter_mem_count {L : List Int} (hL : L.Nodup) : ∀ X : List Int, X.Nodup → (∀ x ∈ X, x ∈ L) → (L.filter (fun x => decide (x ∈ X))).length = X.length
  | [], _, _ => by simp
  | x :: r, hn, hs => by
    rw [List.nodup_cons] at hn
    rw [filter_one_more hn.1 L hL (hs x (List.mem_cons_self ..)), filter_mem_count hL r hn.2 (fun y hy => hs y (List.mem_cons_of_mem _ hy)), List.length_cons]
theorem list_getD (l : List UInt8) : l = (List.range l.length).map (fun i => l.getD i 0) := by
  apply List.ext_getElem?
  intro i
  rw [List.getElem?_map]
  by_cases h : i < l.length
  · rw [List.getElem?_range h, List.getElem?_eq_getElem h]
    simp [List.getD_eq_getElem?_getD, List.getElem?_eq_getElem h]
  · rw [List.getElem?_eq_none (by omega), List.getElem?_eq_none (by simp; omega)]
    rfl
theorem onesN_bits {s : ByteArray} {n : Int} (h : mapC s n = 0) : onesN s = (List.range n.toNat).countP (fun p => bitAt s p == 1) := by
  obtain ⟨h1, h2, h3, h4⟩ := mapC_size h
  rw [mapP_iff] at h4
  have hl : s.data.toList.length = n.toNat + (64 - n.toNat) := by have : s.data.toList.length = 64 := h3; omega
  unfold onesN
  rw [List.count, list_getD s.data.toList, List.countP_map, hl, List.range_add, List.countP_append]
  have hz : List.countP ((fun x => x == (1 : UInt8)) ∘ fun i => s.data.toList.getD i 0) (List.map (fun x => n.toNat + x) (List.range (64 - n.toNat))) = 0 := by
    rw [List.countP_eq_zero]
    intro i hi
    obtain ⟨j, _, rfl⟩ := List.mem_map.1 hi
    have := (h4 (n.toNat + j)).2 (by omega)
    show ¬ ((s.data.toList.getD (n.toNat + j) 0 == 1) = true)
    rw [this]
    decide
  rw [hz, Nat.add_zero]
  rfl

/-- How many places of a group are among the numbers X. -/
def cntK (g : Geom) (b : Bool) (no : Int → Int → Int) (X : List Int) (k : Int) : Nat := (List.range (manyG g b).toNat).countP (fun p : Nat => decide (no k (p : Int) ∈ X))
theorem Taken.ones {S : Side} {g : Geom} {b : Bool} {no : Int → Int → Int} {X : List Int} (hT : Taken S g b no X) {k : Int} (hk : 0 ≤ k ∧ k < g.groups) :
    ∃ s, S.look g k b = some s ∧ onesN s = cntK g b no X k := by
  obtain ⟨s, hs, hb⟩ := hT.look k hk.1 hk.2
  refine ⟨s, hs, ?_⟩
  rw [onesN_bits (look_some hs).2.2]
  unfold cntK
  refine List.countP_congr (fun p hp => ?_)
  have hp2 := List.mem_range.1 hp
  rw [hb p (by omega)]
  by_cases hx : no k (p : Int) ∈ X
  · simp [hx]
  · simp [hx]
/-- The numbers of some groups' places. -/
def numsK (g : Geom) (b : Bool) (no : Int → Int → Int) (ks : List Int) : List Int := ks.flatMap (fun k => (List.range (manyG g b).toNat).map (fun p : Nat => no k (p : Int)))
theorem numsK_nodup {g : Geom} {b : Bool} {no : Int → Int → Int} (hn : NoInj g b no) {ks : List Int} (hk : ∀ k ∈ ks, 0 ≤ k ∧ k < g.groups) (hd : ks.Nodup) : (numsK g b no ks).Nodup := by
  unfold numsK List.Nodup
  rw [List.pairwise_flatMap]
  refine ⟨fun k hkk => ?_, ?_⟩
  · rw [List.pairwise_map]
    refine List.Pairwise.imp_of_mem (fun {p q} hp hq hne e => ?_) (List.nodup_range : (List.range (manyG g b).toNat).Nodup)
    have hp := List.mem_range.1 hp
    have hq := List.mem_range.1 hq
    have := (hn _ _ _ _ (hk k hkk) ⟨by omega, by omega⟩ (hk k hkk) ⟨by omega, by omega⟩ e).2
    omega
  · refine List.Pairwise.imp_of_mem (fun {k k'} h1 h2 hne x hx y hy e => ?_) hd
    obtain ⟨p, hp, rfl⟩ := List.mem_map.1 hx
    obtain ⟨q, hq, rfl⟩ := List.mem_map.1 hy
    have hp := List.mem_range.1 hp
    have hq := List.mem_range.1 hq
    exact hne (hn _ _ _ _ (hk k h1) ⟨by omega, by omega⟩ (hk k' h2) ⟨by omega, by omega⟩ e).1
def sumN (l : List Nat) : Nat := l.foldr (· + ·) 0
theorem filter_flat {β : Type} (p : Int → Bool) (f : β → List Int) : ∀ ks : List β, ((ks.flatMap f).filter p).length = sumN (ks.map (fun k => ((f k).filter p).length))
  | [] => rfl
  | k :: r => by
    rw [List.flatMap_cons, List.filter_append, List.length_append, filter_flat p f r]
    rfl
theorem Taken.sum {S : Side} {g : Geom} {b : Bool} {no : Int → Int → Int} {X : List Int} (hT : Taken S g b no X) (hn : NoInj g b no) {ks : List Int} (hk : ∀ k, k ∈ ks ↔ 0 ≤ k ∧ k < g.groups) (hd : ks.Nodup) :
    sumN (ks.map (cntK g b no X)) = X.length := by
  have h1 := filter_mem_count (numsK_nodup hn (fun k h => (hk k).1 h) hd) X hT.nodup (fun x hx => by
    obtain ⟨k, p, h1, h2, rfl⟩ := hT.sub x hx
    exact List.mem_flatMap.2 ⟨k, (hk k).2 h1, List.mem_map.2 ⟨p.toNat, List.mem_range.2 (by omega), by rw [Int.toNat_of_nonneg h2.1]⟩⟩)
  rw [← h1]
  unfold numsK
  rw [filter_flat]
  congr 1
  refine List.map_congr_left (fun k _ => ?_)
  unfold cntK
  rw [List.countP_eq_length_filter, List.filter_map, List.length_map]
  rfl
/-- How many are free, of all groups. -/
theorem freeL_sum {S : Side} {g : Geom} {X Y : List Int} {noI noB : Int → Int → Int} (hX : Taken S g false noI X) (hY : Taken S g true noB Y) :
    ∀ ks : List Int, (∀ k ∈ ks, 0 ≤ k ∧ k < g.groups) → S.freeL g ks = some (ks.length * g.inodes - (sumN (ks.map (cntK g false noI X)) : Nat), ks.length * g.blocks - (sumN (ks.map (cntK g true noB Y)) : Nat))
  | [], _ => by
    unfold Side.freeL sumN
    simp
  | k :: r, hk => by
    have h0 := hk k (List.mem_cons_self ..)
    obtain ⟨s, hs, h1⟩ := hX.ones h0
    obtain ⟨t, ht, h2⟩ := hY.ones h0
    have ih := freeL_sum hX hY r (fun q hq => hk q (List.mem_cons_of_mem _ hq))
    have e1 : sumN ((k :: r).map (cntK g false noI X)) = cntK g false noI X k + sumN (r.map (cntK g false noI X)) := rfl
    have e2 : sumN ((k :: r).map (cntK g true noB Y)) = cntK g true noB Y k + sumN (r.map (cntK g true noB Y)) := rfl
    unfold Side.freeL
    rw [hs, ht, ih, e1, e2]
    dsimp only
    rw [h1, h2]
    simp only [List.length_cons, Option.some.injEq, Prod.mk.injEq]
    rw [Int.natCast_add, Int.add_mul, Int.add_mul]
    constructor <;> omega
theorem free_all {S : Side} {g : Geom} (hg : g.ok) {X Y : List Int} {noI noB : Int → Int → Int} (hX : Taken S g false noI X) (hY : Taken S g true noB Y) (hi : NoInj g false noI) (hb : NoInj g true noB)
    {ks : List Int} (hk : ∀ k, k ∈ ks ↔ 0 ≤ k ∧ k < g.groups) (hd : ks.Nodup) (hl : (ks.length : Int) = g.groups) :
    S.free g ks = (g.groups * g.inodes - X.length, g.groups * g.blocks - Y.length, 0) := by
  have hw : wrongC g ks = 0 := by
    unfold wrongC
    rw [if_pos hg, if_neg]
    rintro ⟨n, hn, h⟩
    have := (hk n).1 hn
    omega
  unfold Side.free
  rw [if_pos hw, freeL_sum hX hY ks (fun k h => (hk k).1 h), hX.sum hi hk hd, hY.sum hb hk hd, hl]
end Go.Proofs.YtghafpdmcbockaaGreatDoor.Sp
