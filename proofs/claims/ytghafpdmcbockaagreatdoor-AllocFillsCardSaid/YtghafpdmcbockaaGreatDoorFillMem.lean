/-
  AllocFills: what stands in memory in its rounds; and the plain law: all that there is is taken. No walk in this text.
-/
import Derived.Test.YtghafpdmcbockaaGreatDoorAllocMem
namespace Go.Proofs.YtghafpdmcbockaaGreatDoor
open Go Go.RowKit Txt Sp

section
variable {S : Sp.Side} {g : Sp.Geom} {X Y : List Int} {r G : Nat}
theorem nums_le {b : Bool} {no : Int → Int → Int} {X : List Int} (hT : Taken S g b no X) (hn : NoInj g b no) {ks : List Int} (hk : ∀ k ∈ ks, 0 ≤ k ∧ k < g.groups) (hd : ks.Nodup)
    (h : ∀ k ∈ ks, ∀ p : Nat, (p : Int) < manyG g b → no k p ∈ X) : ks.length * (manyG g b).toNat ≤ X.length := by
  have h1 := filter_mem_count hT.nodup (numsK g b no ks) (numsK_nodup hn hk hd) (fun x hx => by
    obtain ⟨k, hkk, hx⟩ := List.mem_flatMap.1 hx
    obtain ⟨p, hp, rfl⟩ := List.mem_map.1 hx
    have hp := List.mem_range.1 hp
    exact h k hkk p (by omega))
  rw [numsK_length] at h1
  rw [← h1]
  exact List.length_filter_le _ _
theorem groups_all (hG : g.groups = (G : Int)) (k : Int) : k ∈ groupsL G ↔ 0 ≤ k ∧ k < g.groups := by rw [hG]; exact groupsL_mem G k
/-- There is room: the next one is taken. -/
theorem Held_block_room (h : Held S g X Y r) (hg : g.ok) (hr : r < 1024) (hG : g.groups = (G : Int)) (hlt : Y.length < G * g.blocks.toNat) :
    ∃ S' c N, S.block g (groupsL G) = (S', N, c, 0) ∧ Held S' g X (Y ++ [N]) (r + 1) := by
  have hk := fun k hk => (groups_all (g := g) hG k).1 hk
  rcases h.block hg hr hk with ⟨k, hkk, p, hp, hx, S', c, he, hh⟩ | ⟨he, hall⟩
  · exact ⟨S', c, _, he, hh⟩
  · have := nums_le h.tb (blockNo_inj hg) hk (groupsL_nodup G) hall
    rw [groupsL_length] at this
    have e : (manyG g true).toNat = g.blocks.toNat := rfl
    rw [e] at this
    omega
theorem Held_inode_room (h : Held S g X Y r) (hg : g.ok) (hr : r < 1024) (hG : g.groups = (G : Int)) (hlt : X.length < G * g.inodes.toNat) :
    ∃ S' c N, S.inode g (groupsL G) = (S', N, c, 0) ∧ Held S' g (X ++ [N]) Y (r + 1) := by
  have hk := fun k hk => (groups_all (g := g) hG k).1 hk
  rcases h.inode hg hr hk with ⟨k, hkk, p, hp, hx, S', c, he, hh⟩ | ⟨he, hall⟩
  · exact ⟨S', c, _, he, hh⟩
  · have := nums_le h.ti (inodeNo_inj g) hk (groupsL_nodup G) hall
    rw [groupsL_length] at this
    have e : (manyG g false).toNat = g.inodes.toNat := rfl
    rw [e] at this
    omega
/-- There is none: a taking answers so. -/
theorem Held_block_full (h : Held S g X Y r) (hg : g.ok) (hr : r < 1024) (hG : g.groups = (G : Int)) (hle : G * g.blocks.toNat ≤ Y.length) : S.block g (groupsL G) = (S, 0, 0, 109) := by
  have hk := fun k hk => (groups_all (g := g) hG k).1 hk
  rcases h.block hg hr hk with ⟨k, hkk, p, hp, hx, S', c, he, hh⟩ | ⟨he, hall⟩
  · have := (held_bd hh hg).2
    rw [List.length_append, List.length_singleton, hG] at this
    have hb : (g.blocks.toNat : Int) = g.blocks := Int.toNat_of_nonneg (by have := hg.2.2.2.2.1; omega)
    rw [← hb] at this
    have h2 : ((G * g.blocks.toNat : Nat) : Int) ≤ (Y.length : Int) := by exact_mod_cast hle
    rw [Int.natCast_mul] at h2
    omega
  · exact he
theorem Held_inode_full (h : Held S g X Y r) (hg : g.ok) (hr : r < 1024) (hG : g.groups = (G : Int)) (hle : G * g.inodes.toNat ≤ X.length) : S.inode g (groupsL G) = (S, 0, 0, 109) := by
  have hk := fun k hk => (groups_all (g := g) hG k).1 hk
  rcases h.inode hg hr hk with ⟨k, hkk, p, hp, hx, S', c, he, hh⟩ | ⟨he, hall⟩
  · have := (held_bd hh hg).1
    rw [List.length_append, List.length_singleton, hG] at this
    have hb : (g.inodes.toNat : Int) = g.inodes := Int.toNat_of_nonneg (by have := hg.2.2.1; omega)
    rw [← hb] at this
    have h2 : ((G * g.inodes.toNat : Nat) : Int) ≤ (X.length : Int) := by exact_mod_cast hle
    rw [Int.natCast_mul] at h2
    omega
  · exact he
/-- One of all is freed, and taken again. -/
theorem Held_again (h : Held S g X Y r) (hg : g.ok) (hr : r + 1 < 1024) (hG : g.groups = (G : Int)) (hle : G * g.blocks.toNat ≤ Y.length) {N : Int} (hN : N ∈ Y) :
    ∃ S1 c, S.freeBlock g N [] = (S1, c, 0) ∧ S1.Ok ∧ S1.deps.last ≤ r + 1 ∧ ∃ S2 c2, S1.block g (groupsL G) = (S2, N, c2, 0) := by
  obtain ⟨k, p, hk, hp, rfl⟩ := h.tb.sub N hN
  obtain ⟨S1, c, e, he, hee, hex, hh⟩ := h.freeBlock hg (by omega) hk hp
  have e0 := hex.2 hN
  subst e0
  refine ⟨S1, c, he, hh.ok, hh.last, ?_⟩
  have hks := fun k hk => (groups_all (g := g) hG k).1 hk
  have hfull := (h.tb.le (blockNo_inj hg) (groups_all hG) (groupsL_nodup G)).2 (by
    rw [numsK_length, groupsL_length]
    have h1 := (h.tb.le (blockNo_inj hg) (groups_all hG) (groupsL_nodup G)).1
    rw [numsK_length, groupsL_length] at h1
    have e : (manyG g true).toNat = g.blocks.toNat := rfl
    rw [e] at h1 ⊢
    omega)
  rcases hh.block hg hr hks with ⟨k', hkk, p', hp', hx, S', c', he', hh'⟩ | ⟨he', hall⟩
  · have hm : blockNo g k' p' ∈ Y := hfull _ (mem_nums hkk hp')
    have heq : blockNo g k' p' = blockNo g k p := Classical.byContradiction fun hne => hx (List.mem_filter.2 ⟨hm, decide_eq_true hne⟩)
    rw [heq] at he'
    exact ⟨S', c', he'⟩
  · obtain ⟨q, rfl⟩ : ∃ q : Nat, p = (q : Int) := ⟨p.toNat, by omega⟩
    have := hall k ((groups_all hG k).2 hk) q hp.2
    exact absurd (List.mem_filter.1 this).2 (by simp)
end
/-- What a round of AllocFills finds in memory. -/
structure FMem (w : World) (g : Sp.Geom) (base B Bd n0 : Nat) (va : Value) (ks : List Int) (vt : Value) (ts : List Int) (S : Sp.Side) (D : Nat → Prop) (wr : World) : Prop where
  side : SideAt wr base B Bd S D
  lt : ∀ j, D j → j < wr.heap.size
  low : ∀ j, D j → w.heap.size ≤ j
  nb : ¬ D w.heap.size
  na : ∀ b, va.ownBlock = some b → ¬ D b ∧ vt.ownBlock ≠ some b
  nt : ∀ b, vt.ownBlock = some b → ¬ D b
  lo : w.heap.size < n0 ∧ n0 ≤ wr.heap.size
  box : wr.heap[w.heap.size]? = some (.cells #[.int .i64 g.groups, .int .i64 g.inodes, .int .i64 g.blocks] 23 (0, 0))
  all : OwnR 3 1 intC n0 wr va ks
  tk : OwnR 3 1 intC n0 wr vt ts
  bel : Below w.heap.size w wr
section
variable {w wr wr' : World} {g : Sp.Geom} {base B Bd n0 : Nat} {va vt : Value} {ks ts : List Int} {S S' : Sp.Side} {D : Nat → Prop}
theorem FMem.below (h : FMem w g base B Bd n0 va ks vt ts S D wr) (hb : Below wr.heap.size wr wr') : FMem w g base B Bd n0 va ks vt ts S D wr' :=
  ⟨h.side.below hb, fun j hj => Nat.lt_of_lt_of_le (h.lt j hj) hb.size, h.low, h.nb, h.na, h.nt, ⟨h.lo.1, Nat.le_trans h.lo.2 hb.size⟩, heapOld hb h.box, OwnR.below h.all hb, OwnR.below h.tk hb, blN h.bel hb⟩
theorem FMem.to (h : FMem w g base B Bd n0 va ks vt ts S D wr) (hs : SideTo wr base B Bd S' D wr') : FMem w g base B Bd n0 va ks vt ts S' (fun j => D j ∨ (wr.heap.size ≤ j ∧ j < wr'.heap.size)) wr' := by
  obtain ⟨hs1, K, hK, hT⟩ := hs
  have hsz := hT.size
  have lb := (Array.getElem?_eq_some_iff.1 h.box).1
  have hlo := h.bel.size
  have hnK : ∀ k, ¬ D k → ¬ K k := fun k hd hk => hd (hK k hk)
  refine ⟨hs1, fun j hj => ?_, fun j hj => ?_, ?_, fun b hb => ⟨?_, (h.na b hb).2⟩, fun b hb => ?_, ⟨h.lo.1, by have := h.lo.2; omega⟩, hT.heap h.box (hnK _ h.nb), h.all.turn hT (fun k hk => hnK _ (h.na k hk).1), h.tk.turn hT (fun k hk => hnK _ (h.nt k hk)), h.bel.trans (hT.below (fun j hj => h.low j (hK j hj)) hlo)⟩
  · rcases hj with hj | hj
    · have := h.lt j hj; omega
    · exact hj.2
  · rcases hj with hj | hj
    · exact h.low j hj
    · omega
  · rintro (hj | hj)
    · exact h.nb hj
    · omega
  · rintro (hj | hj)
    · exact (h.na b hb).1 hj
    · have := (h.all.lt b hb).2
      omega
  · rintro (hj | hj)
    · exact h.nt b hb hj
    · have := (h.tk.lt b hb).2
      omega
theorem FMem.app (h : FMem w g base B Bd n0 va ks vt ts S D wr) {W' w' : World} {gb n cap : Nat} {ts' : List Int} (hb : Below wr.heap.size wr W') (hg : W'.grownBy w' vt.ownBlock)
    (hr : OwnR 3 1 intC n0 w' (.slice (some ⟨gb, 0, none⟩) n cap) ts') (hat : vt.ownBlock = some gb ∨ W'.heap.size ≤ gb) : FMem w g base B Bd n0 va ks (.slice (some ⟨gb, 0, none⟩) n cap) ts' S D w' := by
  have hT : Turn (fun j => vt.ownBlock = some j) W' w' := ⟨hg.os, hg.tape, hg.output, hg.size, fun k hk hne => hg.block k hk (fun e => hne e.symm)⟩
  have h1 := h.below hb
  have lb := (Array.getElem?_eq_some_iff.1 h1.box).1
  refine ⟨h1.side.turn hT (fun k hk e => h.nt k e hk), fun j hj => Nat.lt_of_lt_of_le (h1.lt j hj) hg.size, h.low, h.nb, fun b hb' => ⟨(h.na b hb').1, ?_⟩, ?_, ⟨h.lo.1, Nat.le_trans h1.lo.2 hg.size⟩, hT.heap h1.box (fun e => by have := (h.tk.lt _ e).1; have := h.lo.1; omega), h1.all.turn hT (fun k hk => (h.na k hk).2), hr, h1.bel.trans (hT.below (fun j e => by have := (h.tk.lt _ e).1; have := h.lo.1; omega) h1.bel.size)⟩
  · intro e
    have e : gb = b := by simpa [Value.ownBlock] using e
    subst e
    rcases hat with hat | hat
    · exact (h.na _ hb').2 hat
    · have := (h1.all.lt _ hb').2
      omega
  · intro b e hd
    have e : gb = b := by simpa [Value.ownBlock] using e
    subst e
    rcases hat with hat | hat
    · exact h.nt _ hat hd
    · have := h1.lt _ hd
      omega
theorem FMem.cells (h : FMem w g base B Bd n0 va ks vt ts S D wr) : wr.cell? ⟨w.heap.size, 0, none⟩ = some (.int .i64 g.groups) ∧ wr.cell? ⟨w.heap.size, 1, none⟩ = some (.int .i64 g.inodes) ∧ wr.cell? ⟨w.heap.size, 2, none⟩ = some (.int .i64 g.blocks) :=
  ⟨cellOf h.box rfl, cellOf h.box rfl, cellOf h.box rfl⟩
theorem FMem.ints (h : FMem w g base B Bd n0 va ks vt ts S D wr) : Ints wr va ks := OwnR.row (f := intC) (fun _ _ => rfl) h.all
end
end Go.Proofs.YtghafpdmcbockaaGreatDoor
