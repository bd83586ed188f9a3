/-
  The empty file system, sector by sector of the list of all sectors. No program in this text.
-/
import Derived.Test.YtgofmnhfajmbfaaGreatDoorSpA
namespace Go.Proofs.YtgofmnhfajmbfaaGreatDoor.Sp
open Go Txt

/-- What is laid in a sector of a kind and number. -/
def secOf (g : Geom) (k n : Int) : ByteArray :=
  if k = 0 then superB g else if k = 1 then wallB 0 0 else if k = 3 ∧ n = 0 then ofL (1 :: zeros 63) else if k = 5 ∧ n = 1 then inodeB rootN else blank
theorem secOf_six (g : Geom) (n : Int) : secOf g 6 n = blank := by
  unfold secOf
  rw [if_neg (by decide), if_neg (by decide), if_neg (by omega), if_neg (by omega)]
theorem secOf_five (g : Geom) (n : Int) : secOf g 5 n = if n = 1 then inodeB rootN else blank := by
  unfold secOf
  rw [if_neg (by decide), if_neg (by decide), if_neg (by omega)]
  by_cases h : n = 1
  · rw [if_pos ⟨rfl, h⟩, if_pos h]
  · rw [if_neg (fun x => h x.2), if_neg h]
theorem secOf_low (g : Geom) (r n : Int) (h : 0 ≤ r) (h2 : r < 2) : secOf g (3 + r) n = if r = 0 ∧ n = 0 then ofL (1 :: zeros 63) else blank := by
  unfold secOf
  rw [if_neg (by omega), if_neg (by omega)]
  by_cases c : r = 0 ∧ n = 0
  · rw [if_pos (by omega), if_pos c]
  · rw [if_neg (by omega), if_neg (by omega), if_neg c]
theorem secOf_kind {g : Geom} (h : g.ok) (s : Nat) : (if s = 0 then superB g else if s = 1 then wallB 0 0 else if (s : Int) = g.first 0 then ofL (1 :: zeros 63) else if (s : Int) = g.first 0 + 2 then inodeB rootN else blank) = secOf g (g.kind s).1 (g.kind s).2 := by
  have h1 := Geom.regions_bd h
  have h2 := Geom.long_bd h
  have hf0 : g.first 0 = 2 + (g.regions + 15) / 16 := by unfold Geom.first; omega
  have hi := h.2.2.1
  have hb := h.2.2.2.2.1
  have hl : g.long = 2 + g.inodes + g.blocks := rfl
  obtain ⟨f, hf⟩ : ∃ f, g.first 0 = f := ⟨_, rfl⟩
  unfold Geom.kind
  rw [hf] at hf0 ⊢
  by_cases c1 : (s : Int) < f
  · rw [if_pos c1]
    by_cases c2 : (s : Int) = 0 ∨ (s : Int) = 1
    · rw [if_pos c2]
      rcases c2 with e | e
      · obtain rfl : s = 0 := by omega
        rfl
      · obtain rfl : s = 1 := by omega
        rfl
    · rw [if_neg c2, if_neg (by omega), if_neg (by omega), if_neg (by omega), if_neg (by omega)]
      rfl
  · rw [if_neg c1, if_neg (by omega), if_neg (by omega)]
    obtain ⟨d, hd⟩ : ∃ d, (s : Int) - f = d := ⟨_, rfl⟩
    rw [hd]
    have hd0 : 0 ≤ d := by omega
    have hm1 := Int.emod_nonneg d (b := g.long) (by omega)
    have hm2 := Int.emod_lt_of_pos d (b := g.long) (by omega)
    have hq0 : 0 ≤ d / g.long := Int.ediv_nonneg hd0 (by omega)
    have hdm := Int.mul_ediv_add_emod d g.long
    obtain ⟨q, hq⟩ : ∃ q, d / g.long = q := ⟨_, rfl⟩
    obtain ⟨r, hr⟩ : ∃ r, d % g.long = r := ⟨_, rfl⟩
    rw [hq, hr] at hdm
    rw [hq] at hq0 ⊢
    rw [hr] at hm1 hm2 ⊢
    have hz : q = 0 ∨ g.long ≤ g.long * q := by
      by_cases e : q = 0
      · exact Or.inl e
      · exact Or.inr (by have := Int.mul_le_mul_of_nonneg_left (show (1 : Int) ≤ q by omega) (show 0 ≤ g.long by omega); omega)
    have hz2 : q = 0 ∨ g.inodes ≤ q * g.inodes := by
      by_cases e : q = 0
      · exact Or.inl e
      · exact Or.inr (by have := Int.mul_le_mul_of_nonneg_right (show (1 : Int) ≤ q by omega) (show 0 ≤ g.inodes by omega); omega)
    have e1 : (s : Int) = f ↔ d = 0 := by omega
    have e2 : (s : Int) = f + 2 ↔ d = 2 := by omega
    have k1 : d = 0 ↔ (q = 0 ∧ r = 0) := by
      constructor
      · intro e; rcases hz with z | z
        · subst z; omega
        · omega
      · rintro ⟨z, e⟩; subst z; omega
    have k2 : d = 2 ↔ (q = 0 ∧ r = 2) := by
      constructor
      · intro e; rcases hz with z | z
        · subst z; omega
        · omega
      · rintro ⟨z, e⟩; subst z; omega
    by_cases c3 : 2 + g.inodes ≤ r
    · rw [if_pos c3, if_neg (by rw [e1, k1]; omega), if_neg (by rw [e2, k2]; omega)]
      exact (secOf_six _ _).symm
    · rw [if_neg c3]
      by_cases c4 : 2 ≤ r
      · rw [if_pos c4, if_neg (by rw [e1, k1]; omega)]
        refine Eq.trans ?_ (secOf_five _ _).symm
        have k3 : ((s : Int) = f + 2) ↔ (q * g.inodes + r - 2 + 1 = 1) := by
          rw [e2, k2]
          constructor
          · rintro ⟨z, e⟩; subst z; omega
          · intro e
            rcases hz2 with z | z
            · subst z; refine ⟨rfl, ?_⟩; omega
            · omega
        by_cases c5 : (s : Int) = f + 2
        · rw [if_pos c5, if_pos (k3.1 c5)]
        · rw [if_neg c5, if_neg (fun h => c5 (k3.2 h))]
      · rw [if_neg c4, if_neg (show ¬ (s : Int) = f + 2 by rw [e2, k2]; omega)]
        refine Eq.trans ?_ (secOf_low _ _ _ hm1 (by omega)).symm
        by_cases c5 : (s : Int) = f
        · have := k1.1 (e1.1 c5)
          rw [if_pos c5, if_pos (by omega)]
        · have c6 : ¬ (q = 0 ∧ r = 0) := fun h => c5 (e1.2 (k1.2 h))
          rw [if_neg c5, if_neg (by omega)]
theorem formatL_all {g : Geom} (h : g.ok) : formatL g = (allL g).map (fun x => secOf g x.kind x.number) := by
  have hl := allL_length h
  apply List.ext_getElem?
  intro i
  unfold formatL
  by_cases hi : i < g.size.toNat
  · obtain ⟨x, hx, hk⟩ := allL_at h (s := i) (by omega)
    rw [List.getElem?_map, List.getElem?_range hi, List.getElem?_map, hx]
    simp only [Option.map_some]
    rw [secOf_kind h i, ← hk]
  · rw [List.getElem?_eq_none (by simp; omega), List.getElem?_eq_none (by rw [List.length_map]; omega)]
/-- The numbers of tables, of inodes' maps and of inodes in the list of all sectors. -/
theorem allL_table {g : Geom} (h : g.ok) {i : Nat} {x : Thing} (hx : (allL g)[i]? = some x) (hk : x.kind = 2) : ∃ n : Nat, x.number = (n : Int) ∧ n < ((g.regions + 15) / 16).toNat := by
  have hl := allL_length h
  have hi : i < (allL g).length := (List.getElem?_eq_some_iff.1 hx).1
  obtain ⟨y, hy, hky⟩ := allL_at h (s := i) (by omega)
  rw [hx] at hy
  obtain rfl := Option.some.inj hy
  have h1 := Geom.regions_bd h
  have h2 := Geom.long_bd h
  have hf0 : g.first 0 = 2 + (g.regions + 15) / 16 := by unfold Geom.first; omega
  unfold Geom.kind at hky
  rw [hf0] at hky
  have hm1 := Int.emod_nonneg ((i : Int) - (2 + (g.regions + 15) / 16)) (b := g.long) (by omega)
  by_cases c1 : (i : Int) < 2 + (g.regions + 15) / 16
  · rw [if_pos c1] at hky
    by_cases c2 : (i : Int) = 0 ∨ (i : Int) = 1
    · rw [if_pos c2] at hky
      have := congrArg Prod.fst hky
      simp only at this
      omega
    · rw [if_neg c2] at hky
      have := congrArg Prod.snd hky
      simp only at this
      exact ⟨i - 2, by omega, by omega⟩
  · rw [if_neg c1] at hky
    have := congrArg Prod.fst hky
    split at this
    · simp only at this; omega
    · split at this
      · simp only at this; omega
      · simp only at this; omega
end Go.Proofs.YtgofmnhfajmbfaaGreatDoor.Sp
