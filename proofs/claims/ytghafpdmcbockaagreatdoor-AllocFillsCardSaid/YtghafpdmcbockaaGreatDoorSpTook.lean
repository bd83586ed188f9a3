/-
  Layer 15: what a call of it answers, where just the numbers of two lists are taken. No program in this text.
-/
import Derived.Test.YtghafpdmcbockaaGreatDoorSpCount
namespace Go.Proofs.YtghafpdmcbockaaGreatDoor.Sp
open Go Txt

/-- A side on which just the inodes X and the blocks Y are taken, with at most r changes. -/
structure Held (S : Side) (g : Geom) (X Y : List Int) (r : Nat) : Prop where
  ok : S.Ok
  ti : Taken S g false (inodeNo g) X
  tb : Taken S g true (blockNo g) Y
  few : S.deps.l.length ≤ r
  last : S.deps.last ≤ r

def Side.inode (S : Side) (g : Geom) (ks : List Int) : Side × Int × Int × Int :=
  if (S.take g false ks).2.code = 0 then ((S.take g false ks).1, inodeNo g (S.take g false ks).2.group (S.take g false ks).2.place, (S.take g false ks).2.change, 0) else ((S.take g false ks).1, 0, 0, (S.take g false ks).2.code)
def Side.block (S : Side) (g : Geom) (ks : List Int) : Side × Int × Int × Int :=
  if (S.take g true ks).2.code = 0 then ((S.take g true ks).1, blockNo g (S.take g true ks).2.group (S.take g true ks).2.place, (S.take g true ks).2.change, 0) else ((S.take g true ks).1, 0, 0, (S.take g true ks).2.code)

theorem change_few {S : Side} {i off : Int} {b : ByteArray} {ahead : List Int} {r : Nat} (h1 : S.deps.l.length ≤ r) (h2 : S.deps.last ≤ r) : (S.change i off b ahead).deps.l.length ≤ r + 1 ∧ (S.change i off b ahead).deps.last ≤ r + 1 := by
  unfold Side.change
  split
  · dsimp only
    unfold Deps.add
    split
    · dsimp only
      rw [List.length_append, List.length_singleton]
      omega
    · omega
  · omega
theorem wrongC_zero {g : Geom} (hg : g.ok) {ks : List Int} (hk : ∀ k ∈ ks, 0 ≤ k ∧ k < g.groups) : wrongC g ks = 0 := by
  unfold wrongC
  rw [if_pos hg, if_neg]
  rintro ⟨n, hn, h⟩
  have := hk n hn
  omega
theorem manyG_ok {g : Geom} (hg : g.ok) (b : Bool) : 1 ≤ manyG g b ∧ manyG g b ≤ 64 := by
  obtain ⟨h1, h2, h3, h4, h5, h6⟩ := hg
  unfold manyG
  cases b <;> simp <;> omega
section
variable {S : Side} {g : Geom} {X Y : List Int} {r : Nat}
theorem Held.inode (h : Held S g X Y r) (hg : g.ok) (hr : r < 1024) {ks : List Int} (hk : ∀ k ∈ ks, 0 ≤ k ∧ k < g.groups) :
    (∃ k ∈ ks, ∃ p : Nat, (p : Int) < g.inodes ∧ inodeNo g k p ∉ X ∧ ∃ S' c, S.inode g ks = (S', inodeNo g k p, c, 0) ∧ Held S' g (X ++ [inodeNo g k p]) Y (r + 1)) ∨
    (S.inode g ks = (S, 0, 0, 109) ∧ ∀ k ∈ ks, ∀ p : Nat, (p : Int) < g.inodes → inodeNo g k p ∈ X) := by
  have hr2 : S.deps.l.length < 1024 := by have := h.few; omega
  have ht : S.take g false ks = S.takeL g false ks := if_pos (wrongC_zero hg hk)
  rcases takeL_cases h.ti (inodeNo_inj g) hg h.ok hr2 ks hk with ⟨k, hkk, p, hp, hx, S', h1, h2, h3, s, h4⟩ | ⟨h1, h2⟩
  · refine Or.inl ⟨k, hkk, p, hp, hx, S', S.deps.last + 1, ?_, ?_⟩
    · unfold Side.inode
      rw [ht, h1]
      exact if_pos rfl
    · subst h2
      have hf := change_few (S := S) (i := mapAtG g k false) (off := p) (b := oneB) (ahead := []) h.few h.last
      exact ⟨Side.change_ok h.ok (by have := h.last; omega), h.ti.more (inodeNo_inj g) hg h.ok (hk k hkk) h4 hp h3 hx, h.tb.other hg h.ok (by decide) h4 hp (Or.inr rfl) h3, hf.1, hf.2⟩
  · refine Or.inr ⟨?_, h2⟩
    unfold Side.inode
    rw [ht, h1]
    exact if_neg (fun h => absurd (show (109 : Int) = 0 from h) (by decide))
theorem Held.block (h : Held S g X Y r) (hg : g.ok) (hr : r < 1024) {ks : List Int} (hk : ∀ k ∈ ks, 0 ≤ k ∧ k < g.groups) :
    (∃ k ∈ ks, ∃ p : Nat, (p : Int) < g.blocks ∧ blockNo g k p ∉ Y ∧ ∃ S' c, S.block g ks = (S', blockNo g k p, c, 0) ∧ Held S' g X (Y ++ [blockNo g k p]) (r + 1)) ∨
    (S.block g ks = (S, 0, 0, 109) ∧ ∀ k ∈ ks, ∀ p : Nat, (p : Int) < g.blocks → blockNo g k p ∈ Y) := by
  have hr2 : S.deps.l.length < 1024 := by have := h.few; omega
  have ht : S.take g true ks = S.takeL g true ks := if_pos (wrongC_zero hg hk)
  rcases takeL_cases h.tb (blockNo_inj hg) hg h.ok hr2 ks hk with ⟨k, hkk, p, hp, hx, S', h1, h2, h3, s, h4⟩ | ⟨h1, h2⟩
  · refine Or.inl ⟨k, hkk, p, hp, hx, S', S.deps.last + 1, ?_, ?_⟩
    · unfold Side.block
      rw [ht, h1]
      exact if_pos rfl
    · subst h2
      have hf := change_few (S := S) (i := mapAtG g k true) (off := p) (b := oneB) (ahead := []) h.few h.last
      exact ⟨Side.change_ok h.ok (by have := h.last; omega), h.ti.other hg h.ok (by decide) h4 hp (Or.inr rfl) h3, h.tb.more (blockNo_inj hg) hg h.ok (hk k hkk) h4 hp h3 hx, hf.1, hf.2⟩
  · refine Or.inr ⟨?_, h2⟩
    unfold Side.block
    rw [ht, h1]
    exact if_neg (fun h => absurd (show (109 : Int) = 0 from h) (by decide))
theorem inodeC_no {g : Geom} (hg : g.ok) {n : Int} (h1 : 1 ≤ n) (h2 : n ≤ g.groups * g.inodes) : inodeC g n = 0 ∧ (0 ≤ (n - 1) / g.inodes ∧ (n - 1) / g.inodes < g.groups) ∧ (0 ≤ (n - 1) % g.inodes ∧ (n - 1) % g.inodes < g.inodes) ∧ inodeNo g ((n - 1) / g.inodes) ((n - 1) % g.inodes) = n := by
  have hi : 0 < g.inodes := hg.2.2.1
  refine ⟨?_, ⟨Int.ediv_nonneg (by omega) (by omega), Int.ediv_lt_of_lt_mul hi (by omega)⟩, ⟨Int.emod_nonneg _ (by omega), Int.emod_lt_of_pos _ hi⟩, ?_⟩
  · unfold inodeC
    rw [if_pos hg, if_neg (by omega)]
  · unfold inodeNo
    have := Int.mul_ediv_add_emod (n - 1) g.inodes
    rw [Int.mul_comm] at this
    omega
theorem filter_none {X : List Int} {n : Int} (h : n ∉ X) : X.filter (fun x => decide (x ≠ n)) = X := by
  rw [List.filter_eq_self]
  intro x hx
  exact decide_eq_true (fun e => h (e ▸ hx))
theorem ahead_ok {S : Side} {g : Geom} (hS : S.Ok) {k : Int} {b : Bool} {s : ByteArray} (h : S.look g k b = some s) {p : Nat} (hp : (p : Int) < manyG g b) (hr : S.deps.l.length < 1024) : S.changeC (mapAtG g k b) p zeroB [] = 0 := change_ok0 hS h hp 0 hr
theorem Held.freeInode (h : Held S g X Y r) (hg : g.ok) (hr : r < 1024) {n : Int} (h1 : 1 ≤ n) (h2 : n ≤ g.groups * g.inodes) :
    ∃ S' c e, S.freeInode g n [] = (S', c, e) ∧ (e = 0 ∨ e = 120) ∧ (e = 0 ↔ n ∈ X) ∧ Held S' g (X.filter (fun x => decide (x ≠ n))) Y (r + 1) := by
  obtain ⟨hc, hk, hp, hn⟩ := inodeC_no hg h1 h2
  obtain ⟨k, hkd⟩ : ∃ k, (n - 1) / g.inodes = k := ⟨_, rfl⟩
  obtain ⟨p, hpd⟩ : ∃ p, (n - 1) % g.inodes = p := ⟨_, rfl⟩
  rw [hkd, hpd] at hn
  rw [hkd] at hk
  rw [hpd] at hp
  obtain ⟨q, rfl⟩ : ∃ q : Nat, p = (q : Int) := ⟨p.toNat, by omega⟩
  obtain ⟨s, hs, hb⟩ := h.ti.look k hk.1 hk.2
  have hbit := hb q hp.2
  have hr2 : S.deps.l.length < 1024 := by have := h.few; omega
  have h3 := ahead_ok h.ok hs (b := false) hp.2 hr2
  unfold Side.freeInode
  rw [if_pos hc, hkd, hpd]
  unfold Side.give
  rw [hs]
  dsimp only
  rw [hn] at hbit
  by_cases hx : n ∈ X
  · rw [if_pos hx] at hbit
    rw [if_pos ⟨hp.1, hp.2, hbit⟩]
    refine ⟨_, _, _, rfl, Or.inl h3, ⟨fun _ => hx, fun _ => h3⟩, ?_⟩
    have hf := change_few (S := S) (i := mapAtG g k false) (off := q) (b := zeroB) (ahead := []) h.few h.last
    have hl := h.ti.less (inodeNo_inj g) hg h.ok hk hs hp.2 h3
    rw [hn] at hl
    exact ⟨Side.change_ok h.ok (by have := h.last; omega), hl, h.tb.other hg h.ok (by decide) hs hp.2 (Or.inl rfl) h3, hf.1, hf.2⟩
  · rw [if_neg hx] at hbit
    have hbit2 : s.data.toList.getD (q : Int).toNat 0 = 0 := hbit
    rw [if_neg (by rw [hbit2]; exact fun h => absurd h.2.2 (by decide))]
    refine ⟨_, _, _, rfl, Or.inr rfl, ⟨fun h => absurd h (by decide), fun h => absurd h hx⟩, ?_⟩
    rw [filter_none hx]
    exact ⟨h.ok, h.ti, h.tb, by have := h.few; omega, by have := h.last; omega⟩
theorem block_kind {g : Geom} (hg : g.ok) {k p : Int} (hk : 0 ≤ k ∧ k < g.groups) (hp : 0 ≤ p ∧ p < g.blocks) : 0 ≤ blockNo g k p ∧ blockNo g k p < g.size ∧ g.kind (blockNo g k p) = (6, k * g.blocks + p) := by
  have hl : g.long = 2 + g.inodes + g.blocks := rfl
  have h0 := Geom.first_bd hg (k := 0) (by omega) (by omega)
  have hi := hg.2.2.1
  have hlp := Geom.long_bd hg
  have hat : blockNo g k p - g.first 0 = (2 + g.inodes + p) + k * g.long := by
    unfold blockNo Geom.first
    omega
  have hkl : 0 ≤ k * g.long := Int.mul_nonneg hk.1 (by omega)
  have hq : (blockNo g k p - g.first 0) / g.long = k := by
    rw [hat, Int.add_mul_ediv_right _ _ (by omega), Int.ediv_eq_zero_of_lt (by omega) (by omega)]
    omega
  have hm : (blockNo g k p - g.first 0) % g.long = 2 + g.inodes + p := by
    rw [hat, Int.add_mul_emod_self_right, Int.emod_eq_of_lt (by omega) (by omega)]
  have hs : (k + 1) * g.long ≤ g.groups * g.long := Int.mul_le_mul_of_nonneg_right (by omega) (by omega)
  rw [Int.add_mul] at hs
  refine ⟨by omega, ?_, ?_⟩
  · rw [Geom.size_ok hg]
    have : g.first g.groups = g.first 0 + g.groups * g.long := by unfold Geom.first; omega
    omega
  · unfold Geom.kind
    rw [if_neg (by omega), hm, if_pos (by omega), hq]
    congr 1
    omega
theorem Held.freeBlock (h : Held S g X Y r) (hg : g.ok) (hr : r < 1024) {k p : Int} (hk : 0 ≤ k ∧ k < g.groups) (hp : 0 ≤ p ∧ p < g.blocks) :
    ∃ S' c e, S.freeBlock g (blockNo g k p) [] = (S', c, e) ∧ (e = 0 ∨ e = 120) ∧ (e = 0 ↔ blockNo g k p ∈ Y) ∧ Held S' g X (Y.filter (fun x => decide (x ≠ blockNo g k p))) (r + 1) := by
  obtain ⟨hb0, hb1, hkd⟩ := block_kind hg hk hp
  have hc : blockC g (blockNo g k p) = 0 := by
    unfold blockC
    rw [if_pos hg, if_neg (by omega), hkd, if_pos rfl]
  have hbk : 0 < g.blocks := hg.2.2.2.2.1
  obtain ⟨q, rfl⟩ : ∃ q : Nat, p = (q : Int) := ⟨p.toNat, by omega⟩
  have e1 : (k * g.blocks + (q : Int)) / g.blocks = k := by rw [Int.add_comm, Int.add_mul_ediv_right _ _ (by omega), Int.ediv_eq_zero_of_lt hp.1 hp.2]; omega
  have e2 : (k * g.blocks + (q : Int)) % g.blocks = q := by rw [Int.add_comm, Int.add_mul_emod_self_right, Int.emod_eq_of_lt hp.1 hp.2]
  obtain ⟨s, hs, hb⟩ := h.tb.look k hk.1 hk.2
  have hbit := hb q hp.2
  have hr2 : S.deps.l.length < 1024 := by have := h.few; omega
  have h3 := ahead_ok h.ok hs (b := true) hp.2 hr2
  unfold Side.freeBlock
  rw [if_pos hc, hkd]
  dsimp only
  rw [e1, e2]
  unfold Side.give
  rw [hs]
  dsimp only
  by_cases hx : blockNo g k q ∈ Y
  · rw [if_pos hx] at hbit
    rw [if_pos ⟨hp.1, hp.2, hbit⟩]
    refine ⟨_, _, _, rfl, Or.inl h3, ⟨fun _ => hx, fun _ => h3⟩, ?_⟩
    have hf := change_few (S := S) (i := mapAtG g k true) (off := q) (b := zeroB) (ahead := []) h.few h.last
    exact ⟨Side.change_ok h.ok (by have := h.last; omega), h.ti.other hg h.ok (by decide) hs hp.2 (Or.inl rfl) h3, h.tb.less (blockNo_inj hg) hg h.ok hk hs hp.2 h3, hf.1, hf.2⟩
  · rw [if_neg hx] at hbit
    have hbit2 : s.data.toList.getD (q : Int).toNat 0 = 0 := hbit
    rw [if_neg (by rw [hbit2]; exact fun h => absurd h.2.2 (by decide))]
    refine ⟨_, _, _, rfl, Or.inr rfl, ⟨fun h => absurd h (by decide), fun h => absurd h hx⟩, ?_⟩
    rw [filter_none hx]
    exact ⟨h.ok, h.ti, h.tb, by have := h.few; omega, by have := h.last; omega⟩
end
end Go.Proofs.YtghafpdmcbockaaGreatDoor.Sp
