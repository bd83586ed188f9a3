/-
  Layer 15: what is taken, as a list of numbers. No program in this text.
-/
import Derived.Test.YtghafpdmcbockaaGreatDoorSpAlloc
namespace Go.Proofs.YtghafpdmcbockaaGreatDoor.Sp
open Go Txt

def bitAt (s : ByteArray) (p : Nat) : UInt8 := s.data.toList.getD p 0
theorem patchL_one {l : List UInt8} {p : Nat} {v : UInt8} (h : p < l.length) : patchL l p [v] = l.set p v := by
  unfold patchL
  rw [List.set_eq_take_append_cons_drop, if_pos h]
  simp
theorem mapP_iff (l : List UInt8) (n : Nat) : mapP l n = true ↔ ∀ i, (i < n → l.getD i 0 = 0 ∨ l.getD i 0 = 1) ∧ (n ≤ i → l.getD i 0 = 0) := by
  unfold mapP
  rw [Bool.and_eq_true, List.all_eq_true, List.all_eq_true]
  constructor
  · rintro ⟨h1, h2⟩ i
    constructor
    · intro hi
      by_cases hl : i < l.length
      · have hm : l[i] ∈ l.take n := List.mem_take_iff_getElem.2 ⟨i, by omega, rfl⟩
        have := h1 _ hm
        rw [List.getD_eq_getElem?_getD, List.getElem?_eq_getElem hl]
        simpa using this
      · rw [List.getD_eq_getElem?_getD, List.getElem?_eq_none (by omega)]
        exact Or.inl rfl
    · intro hi
      by_cases hl : i < l.length
      · have hm : l[i] ∈ l.drop n := List.mem_drop_iff_getElem.2 ⟨i - n, by omega, by congr 1; omega⟩
        have := h2 _ hm
        rw [List.getD_eq_getElem?_getD, List.getElem?_eq_getElem hl]
        simpa using this
      · rw [List.getD_eq_getElem?_getD, List.getElem?_eq_none (by omega)]
        rfl
  · intro h
    constructor
    · intro b hb
      obtain ⟨i, hi, rfl⟩ := List.mem_take_iff_getElem.1 hb
      have := (h i).1 (by omega)
      rw [List.getD_eq_getElem?_getD, List.getElem?_eq_getElem (by omega)] at this
      simpa using this
    · intro b hb
      obtain ⟨i, hi, rfl⟩ := List.mem_drop_iff_getElem.1 hb
      have := (h (n + i)).2 (by omega)
      rw [List.getD_eq_getElem?_getD, List.getElem?_eq_getElem (by omega)] at this
      simpa using this
theorem mapC_size {s : ByteArray} {n : Int} (h : mapC s n = 0) : 1 ≤ n ∧ n ≤ 64 ∧ s.size = 64 ∧ mapP s.data.toList n.toNat = true := by
  unfold mapC at h
  split at h
  · exact absurd h (by decide)
  · split at h
    · rename_i h1 h2
      exact ⟨by omega, by omega, h2.1, h2.2⟩
    · exact absurd h (by decide)
theorem bit_set {s : ByteArray} (hs : s.size = 64) {p : Nat} (hp : p < 64) (v : UInt8) (q : Nat) : bitAt (ofL (patchL s.data.toList p [v])) q = if q = p then v else bitAt s q := by
  have hl : s.data.toList.length = 64 := hs
  unfold bitAt
  rw [ofL_data, patchL_one (by omega), List.getD_eq_getElem?_getD, List.getElem?_set, List.getD_eq_getElem?_getD]
  by_cases h : p = q
  · subst h
    rw [if_pos rfl, if_pos rfl, if_pos (by omega)]
    rfl
  · rw [if_neg h, if_neg (Ne.symm h)]
theorem mapC_set {s : ByteArray} {n : Int} (h : mapC s n = 0) {p : Nat} (hp : (p : Int) < n) {v : UInt8} (hv : v = 0 ∨ v = 1) : mapC (ofL (patchL s.data.toList p [v])) n = 0 := by
  obtain ⟨h1, h2, h3, h4⟩ := mapC_size h
  unfold mapC
  rw [if_neg (by omega), if_pos]
  refine ⟨?_, ?_⟩
  · rw [Lib.size_eq, ofL_data, patchL_one (by have : s.data.toList.length = 64 := h3; omega), List.length_set]; exact h3
  · rw [mapP_iff] at h4 ⊢
    intro i
    have hb := bit_set h3 (p := p) (by omega) v i
    unfold bitAt at hb
    rw [hb]
    by_cases hi : i = p
    · rw [if_pos hi]
      exact ⟨fun _ => hv, fun hn => by omega⟩
    · rw [if_neg hi]
      exact h4 i
theorem freeP_some {s : ByteArray} {n p : Nat} (h : freeP s n = some p) : p < n ∧ bitAt s p = 0 := by
  unfold freeP at h
  have h1 := List.mem_of_find?_eq_some h
  have h2 := List.find?_some h
  exact ⟨List.mem_range.1 h1, eq_of_beq h2⟩
theorem freeP_none {s : ByteArray} {n : Nat} (h : freeP s n = none) (p : Nat) (hp : p < n) : bitAt s p ≠ 0 := by
  unfold freeP at h
  exact fun e => List.find?_eq_none.1 h p (List.mem_range.2 hp) (beq_iff_eq.2 e)

/-- Just the numbers of X are taken. -/
structure Taken (S : Side) (g : Geom) (b : Bool) (no : Int → Int → Int) (X : List Int) : Prop where
  look : ∀ k, 0 ≤ k → k < g.groups → ∃ s, S.look g k b = some s ∧ ∀ p : Nat, (p : Int) < manyG g b → bitAt s p = if no k p ∈ X then 1 else 0
  sub : ∀ x ∈ X, ∃ k p : Int, (0 ≤ k ∧ k < g.groups) ∧ (0 ≤ p ∧ p < manyG g b) ∧ x = no k p
  nodup : X.Nodup
/-- Numbers tell places. -/
def NoInj (g : Geom) (b : Bool) (no : Int → Int → Int) : Prop := ∀ k p k' p' : Int, (0 ≤ k ∧ k < g.groups) → (0 ≤ p ∧ p < manyG g b) → (0 ≤ k' ∧ k' < g.groups) → (0 ≤ p' ∧ p' < manyG g b) → no k p = no k' p' → k = k' ∧ p = p'

theorem step_inj {m k p k' p' : Int} (hp : 0 ≤ p ∧ p < m) (hp' : 0 ≤ p' ∧ p' < m) (h : k * m + p = k' * m + p') : k = k' ∧ p = p' := by
  have hm : 0 < m := by omega
  have h1 : (k * m + p) / m = k := by rw [Int.add_comm, Int.add_mul_ediv_right _ _ (by omega), Int.ediv_eq_zero_of_lt hp.1 hp.2]; omega
  have h2 : (k' * m + p') / m = k' := by rw [Int.add_comm, Int.add_mul_ediv_right _ _ (by omega), Int.ediv_eq_zero_of_lt hp'.1 hp'.2]; omega
  have hk : k = k' := by rw [← h1, h, h2]
  subst hk
  exact ⟨rfl, by omega⟩
theorem inodeNo_inj (g : Geom) : NoInj g false (inodeNo g) := by
  intro k p k' p' hk hp hk' hp' h
  unfold inodeNo at h
  unfold manyG at hp hp'
  exact step_inj (m := g.inodes) hp hp' (by omega)
theorem blockNo_inj {g : Geom} (hg : g.ok) : NoInj g true (blockNo g) := by
  intro k p k' p' hk hp hk' hp' h
  unfold manyG at hp hp'
  have h1 : k * g.long + (2 + g.inodes + p) = k' * g.long + (2 + g.inodes + p') := by unfold blockNo Geom.first at h; omega
  have hi := hg.2.2.1
  have hl : g.long = 2 + g.inodes + g.blocks := rfl
  rw [if_pos rfl] at hp hp'
  have := step_inj (m := g.long) (by omega) (by omega) h1
  exact ⟨this.1, by omega⟩
theorem mapAtG_inj {g : Geom} (hg : g.ok) {k k' : Int} {b b' : Bool} (h : mapAtG g k b = mapAtG g k' b') : k = k' ∧ b = b' := by
  have hl := Geom.long_bd hg
  have h1 : k * g.long + (if b then 1 else 0) = k' * g.long + (if b' then 1 else 0) := by unfold mapAtG Geom.first at h; omega
  have := step_inj (m := g.long) (p := if b then 1 else 0) (p' := if b' then 1 else 0) (by cases b <;> simp <;> omega) (by cases b' <;> simp <;> omega) h1
  refine ⟨this.1, ?_⟩
  cases b <;> cases b' <;> simp_all
theorem look_some {S : Side} {g : Geom} {k : Int} {b : Bool} {s : ByteArray} (h : S.look g k b = some s) : S.disk.has (mapAtG g k b) ∧ s = S.read (mapAtG g k b) ∧ mapC s (manyG g b) = 0 := by
  unfold Side.look at h
  split at h
  · rename_i hc
    obtain rfl := Option.some.inj h
    exact ⟨hc.1, rfl, hc.2⟩
  · cases h
/-- What a change of one place of a map leaves. -/
theorem look_change {S : Side} {g : Geom} (hg : g.ok) (hS : S.Ok) {k : Int} {b : Bool} {s : ByteArray} (h : S.look g k b = some s) {p : Nat} (hp : (p : Int) < manyG g b) {v : UInt8} (hv : v = 0 ∨ v = 1) {ahead : List Int}
    (hc : S.changeC (mapAtG g k b) p ⟨#[v]⟩ ahead = 0) (k' : Int) (b' : Bool) :
    (S.change (mapAtG g k b) p ⟨#[v]⟩ ahead).look g k' b' = if k' = k ∧ b' = b then some (ofL (patchL s.data.toList p [v])) else S.look g k' b' := by
  obtain ⟨h1, h2, h3⟩ := look_some h
  have hdisk : (S.change (mapAtG g k b) p ⟨#[v]⟩ ahead).disk = S.disk := by unfold Side.change; rw [if_pos hc]
  have hr := Side.read_change hS hc
  by_cases he : k' = k ∧ b' = b
  · obtain ⟨rfl, rfl⟩ := he
    rw [if_pos ⟨rfl, rfl⟩]
    unfold Side.look
    rw [hr, if_pos rfl, hdisk, ← h2]
    exact if_pos ⟨h1, mapC_set h3 hp hv⟩
  · rw [if_neg he]
    unfold Side.look
    rw [hr, if_neg (fun e => he (mapAtG_inj hg e)), hdisk]
theorem change_ok0 {S : Side} {g : Geom} (hS : S.Ok) {k : Int} {b : Bool} {s : ByteArray} (h : S.look g k b = some s) {p : Nat} (hp : (p : Int) < manyG g b) (v : UInt8) (hr : S.deps.l.length < 1024) :
    S.changeC (mapAtG g k b) p ⟨#[v]⟩ [] = 0 := by
  obtain ⟨h1, h2, h3⟩ := look_some h
  have hb := (mapC_size h3).2.1
  have hz := hS.size
  unfold Side.changeC
  rw [if_pos h1]
  unfold Deps.addC
  unfold Disk.has at h1
  rw [if_pos ⟨h1.1, by omega, by unfold inside; show 0 ≤ (p : Int) ∧ 0 < ((1 : Nat) : Int) ∧ ((1 : Nat) : Int) ≤ 64 ∧ (p : Int) ≤ 64 - ((1 : Nat) : Int); omega⟩, if_neg (by simp), if_neg (by omega)]
/-- One place more, or one less. -/
theorem Taken.other {S : Side} {g : Geom} {b b' : Bool} {no : Int → Int → Int} {X : List Int} (hT : Taken S g b' no X) (hg : g.ok) (hS : S.Ok) (hb : b' ≠ b) {k : Int} {s : ByteArray} (h : S.look g k b = some s) {p : Nat} (hp : (p : Int) < manyG g b) {v : UInt8} (hv : v = 0 ∨ v = 1) {ahead : List Int}
    (hc : S.changeC (mapAtG g k b) p ⟨#[v]⟩ ahead = 0) : Taken (S.change (mapAtG g k b) p ⟨#[v]⟩ ahead) g b' no X :=
  ⟨fun k' h0 h1 => by rw [look_change hg hS h hp hv hc, if_neg (fun e => hb e.2)]; exact hT.look k' h0 h1, hT.sub, hT.nodup⟩
theorem Taken.more {S : Side} {g : Geom} {b : Bool} {no : Int → Int → Int} {X : List Int} (hT : Taken S g b no X) (hn : NoInj g b no) (hg : g.ok) (hS : S.Ok) {k : Int} (hk : 0 ≤ k ∧ k < g.groups) {s : ByteArray} (h : S.look g k b = some s) {p : Nat} (hp : (p : Int) < manyG g b) {ahead : List Int}
    (hc : S.changeC (mapAtG g k b) p oneB ahead = 0) (hx : no k p ∉ X) : Taken (S.change (mapAtG g k b) p oneB ahead) g b no (X ++ [no k p]) := by
  refine ⟨fun k' h0 h1 => ?_, fun x hx => ?_, ?_⟩
  · obtain ⟨s', hs', hb'⟩ := hT.look k' h0 h1
    have hl := look_change hg hS h hp (v := 1) (Or.inr rfl) hc k' b
    by_cases he : k' = k
    · subst he
      rw [h] at hs'
      obtain rfl := Option.some.inj hs'
      rw [if_pos ⟨rfl, rfl⟩] at hl
      refine ⟨_, hl, fun q hq => ?_⟩
      have hm := mapC_size (look_some h).2.2
      rw [bit_set hm.2.2.1 (by omega)]
      by_cases hqp : q = p
      · subst hqp
        rw [if_pos rfl, if_pos (List.mem_append_right _ (List.mem_singleton.2 rfl))]
      · rw [if_neg hqp, hb' q hq]
        have : no k' q ∈ X ++ [no k' p] ↔ no k' q ∈ X := by
          rw [List.mem_append, List.mem_singleton]
          exact ⟨fun h => h.elim id (fun e => absurd (hn _ _ _ _ hk ⟨by omega, hq⟩ hk ⟨by omega, hp⟩ e).2 (by omega)), Or.inl⟩
        simp only [this]
    · rw [if_neg (fun e => he e.1)] at hl
      refine ⟨s', hl.trans hs', fun q hq => ?_⟩
      rw [hb' q hq]
      have : no k' q ∈ X ++ [no k p] ↔ no k' q ∈ X := by
        rw [List.mem_append, List.mem_singleton]
        exact ⟨fun h => h.elim id (fun e => absurd (hn _ _ _ _ ⟨h0, h1⟩ ⟨by omega, hq⟩ hk ⟨by omega, hp⟩ e).1 he), Or.inl⟩
      simp only [this]
  · rcases List.mem_append.1 hx with hx | hx
    · exact hT.sub x hx
    · exact ⟨k, p, hk, ⟨by omega, hp⟩, List.mem_singleton.1 hx⟩
  · rw [List.nodup_append]
    exact ⟨hT.nodup, by simp, fun a ha c hc e => hx (by rw [List.mem_singleton.1 hc] at e; rw [← e]; exact ha)⟩
theorem Taken.less {S : Side} {g : Geom} {b : Bool} {no : Int → Int → Int} {X : List Int} (hT : Taken S g b no X) (hn : NoInj g b no) (hg : g.ok) (hS : S.Ok) {k : Int} (hk : 0 ≤ k ∧ k < g.groups) {s : ByteArray} (h : S.look g k b = some s) {p : Nat} (hp : (p : Int) < manyG g b) {ahead : List Int}
    (hc : S.changeC (mapAtG g k b) p zeroB ahead = 0) : Taken (S.change (mapAtG g k b) p zeroB ahead) g b no (X.filter (fun x => decide (x ≠ no k p))) := by
  refine ⟨fun k' h0 h1 => ?_, fun x hx => hT.sub x (List.mem_filter.1 hx).1, hT.nodup.filter _⟩
  obtain ⟨s', hs', hb'⟩ := hT.look k' h0 h1
  have hl := look_change hg hS h hp (v := 0) (Or.inl rfl) hc k' b
  by_cases he : k' = k
  · subst he
    rw [h] at hs'
    obtain rfl := Option.some.inj hs'
    rw [if_pos ⟨rfl, rfl⟩] at hl
    refine ⟨_, hl, fun q hq => ?_⟩
    have hm := mapC_size (look_some h).2.2
    rw [bit_set hm.2.2.1 (by omega)]
    by_cases hqp : q = p
    · subst hqp
      rw [if_pos rfl, if_neg (fun h => by simpa using (List.mem_filter.1 h).2)]
    · rw [if_neg hqp, hb' q hq]
      have : no k' q ∈ X.filter (fun x => decide (x ≠ no k' p)) ↔ no k' q ∈ X := by
        rw [List.mem_filter]
        exact ⟨fun h => h.1, fun h => ⟨h, decide_eq_true (fun e => absurd (hn _ _ _ _ hk ⟨by omega, hq⟩ hk ⟨by omega, hp⟩ e).2 (by omega))⟩⟩
      simp only [this]
  · rw [if_neg (fun e => he e.1)] at hl
    refine ⟨s', hl.trans hs', fun q hq => ?_⟩
    rw [hb' q hq]
    have : no k' q ∈ X.filter (fun x => decide (x ≠ no k p)) ↔ no k' q ∈ X := by
      rw [List.mem_filter]
      exact ⟨fun h => h.1, fun h => ⟨h, decide_eq_true (fun e => absurd (hn _ _ _ _ ⟨h0, h1⟩ ⟨by omega, hq⟩ hk ⟨by omega, hp⟩ e).1 he)⟩⟩
    simp only [this]
/-- Taking the first free place of groups. -/
theorem takeL_cases {S : Side} {g : Geom} {b : Bool} {no : Int → Int → Int} {X : List Int} (hT : Taken S g b no X) (hn : NoInj g b no) (hg : g.ok) (hS : S.Ok) (hr : S.deps.l.length < 1024) :
    ∀ ks : List Int, (∀ k ∈ ks, 0 ≤ k ∧ k < g.groups) →
    (∃ k ∈ ks, ∃ p : Nat, (p : Int) < manyG g b ∧ no k p ∉ X ∧ ∃ S', S.takeL g b ks = (S', ⟨k, p, S.deps.last + 1, 0⟩) ∧ S' = S.change (mapAtG g k b) p oneB [] ∧ S.changeC (mapAtG g k b) p oneB [] = 0 ∧ ∃ s, S.look g k b = some s) ∨
    (S.takeL g b ks = (S, ⟨0, 0, 0, 109⟩) ∧ ∀ k ∈ ks, ∀ p : Nat, (p : Int) < manyG g b → no k p ∈ X)
  | [], _ => Or.inr ⟨rfl, fun k hk => by cases hk⟩
  | k :: r, hk => by
    have hk0 := hk k (List.mem_cons_self ..)
    obtain ⟨s, hs, hb⟩ := hT.look k hk0.1 hk0.2
    have hm := mapC_size (look_some hs).2.2
    unfold Side.takeL
    rw [hs]
    dsimp only
    cases hf : freeP s (manyG g b).toNat with
    | some p =>
      obtain ⟨hp, hbit⟩ := freeP_some hf
      have hp2 : (p : Int) < manyG g b := by omega
      have hx : no k p ∉ X := fun h => by
        rw [hb p hp2, if_pos h] at hbit
        exact absurd hbit (by decide)
      have hc := change_ok0 hS hs hp2 1 hr
      refine Or.inl ⟨k, List.mem_cons_self .., p, hp2, hx, _, ?_, rfl, hc, s, hs⟩
      dsimp only
      have hc2 : S.changeC (mapAtG g k b) p oneB [] = 0 := hc
      unfold Side.changeN
      rw [hc2, if_pos rfl]
    | none =>
      dsimp only
      rcases takeL_cases hT hn hg hS hr r (fun q hq => hk q (List.mem_cons_of_mem _ hq)) with ⟨q, hq, p, h1, h2, S', h3, h4, h5, h6⟩ | ⟨h1, h2⟩
      · exact Or.inl ⟨q, List.mem_cons_of_mem _ hq, p, h1, h2, S', h3, h4, h5, h6⟩
      · refine Or.inr ⟨h1, fun q hq p hp => ?_⟩
        rcases List.mem_cons.1 hq with rfl | hq
        · have hbit := freeP_none hf p (by omega)
          rw [hb p hp] at hbit
          by_cases hx : no q p ∈ X
          · exact hx
          · rw [if_neg hx] at hbit
            exact absurd rfl hbit
        · exact h2 q hq p hp
end Go.Proofs.YtghafpdmcbockaaGreatDoor.Sp
