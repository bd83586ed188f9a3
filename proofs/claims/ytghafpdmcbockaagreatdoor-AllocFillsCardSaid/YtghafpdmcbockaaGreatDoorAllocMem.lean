/-
  Layer 15's laws: a side, two maps of what is taken, a row of groups: beside one another in memory. No walk in this text.
-/
import Derived.Test.YtghafpdmcbockaaGreatDoorAllocWorks
import Derived.Test.YtghafpdmcbockaaGreatDoorOpenActs
namespace Go.Proofs.YtghafpdmcbockaaGreatDoor
open Go Go.RowKit Txt Sp

def boolV (b : Bool) : Value := .bool b
/-- The entries of a set of numbers. -/
def onesE (X : List Int) : List (Int × Bool) := X.map fun n => (n, true)
theorem getM_ones (X : List Int) (n : Int) : IM.getM (onesE X) n = if n ∈ X then some true else none := by
  induction X with
  | nil => rfl
  | cons x r ih =>
    unfold onesE IM.getM at ih ⊢
    rw [List.map_cons, List.find?_cons]
    by_cases h : x = n
    · subst h
      simp
    · rw [decide_eq_false h]
      simp only [ih, List.mem_cons, Ne.symm h, false_or]
theorem setM_ones {X : List Int} {n : Int} (h : n ∉ X) : IM.setM (onesE X) n true = onesE (X ++ [n]) := by
  unfold IM.setM
  rw [getM_ones, if_neg h]
  unfold onesE
  rw [List.map_append]
  rfl
theorem delM_ones (X : List Int) (n : Int) : IM.delM (onesE X) n = onesE (X.filter (fun x => decide (x ≠ n))) := by
  unfold IM.delM onesE
  rw [List.filter_map]
  rfl
theorem onesE_length (X : List Int) : (onesE X).length = X.length := by unfold onesE; rw [List.length_map]
theorem setBlock_turn {w : World} {m : Nat} {o : Obj} : Turn (fun j => j = m) w (ChangeMaps.setBlock w m o) :=
  ⟨rfl, rfl, rfl, by rw [IM.size_setBlock]; exact Nat.le_refl _, fun k _ h => IM.heap_setBlock_ne h⟩
/-- What a law's round finds in memory. -/
structure OMem (w : World) (g : Sp.Geom) (base B Bd m1 m2 : Nat) (va : Value) (ks : List Int) (S : Sp.Side) (X Y : List Int) (D : Nat → Prop) (wr : World) : Prop where
  side : SideAt wr base B Bd S D
  lt : ∀ j, D j → j < wr.heap.size
  low : ∀ j, D j → w.heap.size ≤ j
  nb : ¬ D w.heap.size
  n1 : ¬ D m1
  n2 : ¬ D m2
  na : ∀ b, va.ownBlock = some b → ¬ D b ∧ b ≠ m1 ∧ b ≠ m2
  mi : IM.MapAt boolV wr m1 (onesE X)
  mb : IM.MapAt boolV wr m2 (onesE Y)
  ne : m1 ≠ m2
  lo : w.heap.size < m1 ∧ w.heap.size < m2
  box : wr.heap[w.heap.size]? = some (.cells #[.int .i64 g.groups, .int .i64 g.inodes, .int .i64 g.blocks] 23 (0, 0))
  all : OwnR 3 1 intC w.heap.size wr va ks
  bel : Below w.heap.size w wr
section
variable {w wr wr' : World} {g : Sp.Geom} {base B Bd m1 m2 : Nat} {va : Value} {ks : List Int} {S S' : Sp.Side} {X Y X' Y' : List Int} {D : Nat → Prop}
theorem MapAt_turn {K : Nat → Prop} {a b : World} {m : Nat} {l : List (Int × Bool)} (hT : Turn K a b) (h : IM.MapAt boolV a m l) (hk : ¬ K m) : IM.MapAt boolV b m l := by
  obtain ⟨o, h1, h2⟩ := h
  exact ⟨o, hT.heap h1 hk, h2⟩
theorem OMem.below (h : OMem w g base B Bd m1 m2 va ks S X Y D wr) (hb : Below wr.heap.size wr wr') : OMem w g base B Bd m1 m2 va ks S X Y D wr' :=
  ⟨h.side.below hb, fun j hj => Nat.lt_of_lt_of_le (h.lt j hj) hb.size, h.low, h.nb, h.n1, h.n2, h.na, MapAt_turn (K := fun _ => False) (Turn.of_below hb) h.mi (fun h => h), MapAt_turn (K := fun _ => False) (Turn.of_below hb) h.mb (fun h => h), h.ne, h.lo, heapOld hb h.box, OwnR.below h.all hb, blN h.bel hb⟩
theorem OMem.to (h : OMem w g base B Bd m1 m2 va ks S X Y D wr) (hs : SideTo wr base B Bd S' D wr') : OMem w g base B Bd m1 m2 va ks S' X Y (fun j => D j ∨ (wr.heap.size ≤ j ∧ j < wr'.heap.size)) wr' := by
  obtain ⟨hs1, K, hK, hT⟩ := hs
  have hsz := hT.size
  have l1 := h.mi.lt
  have l2 := h.mb.lt
  have lb := (Array.getElem?_eq_some_iff.1 h.box).1
  have hlo := h.bel.size
  have hnK : ∀ k, ¬ D k → ¬ K k := fun k hd hk => hd (hK k hk)
  refine ⟨hs1, fun j hj => ?_, fun j hj => ?_, ?_, ?_, ?_, fun b hb => ?_, MapAt_turn hT h.mi (hnK _ h.n1), MapAt_turn hT h.mb (hnK _ h.n2), h.ne, h.lo, hT.heap h.box (hnK _ h.nb), h.all.turn hT (fun k hk => hnK _ (h.na k hk).1), h.bel.trans (hT.below (fun j hj => h.low j (hK j hj)) hlo)⟩
  · rcases hj with hj | hj
    · have := h.lt j hj; omega
    · exact hj.2
  · rcases hj with hj | hj
    · exact h.low j hj
    · omega
  · rintro (hj | hj)
    · exact h.nb hj
    · omega
  · rintro (hj | hj)
    · exact h.n1 hj
    · omega
  · rintro (hj | hj)
    · exact h.n2 hj
    · omega
  · refine ⟨?_, (h.na b hb).2⟩
    rintro (hj | hj)
    · exact (h.na b hb).1 hj
    · have := (h.all.lt b hb).2
      omega
theorem OMem.set1 (h : OMem w g base B Bd m1 m2 va ks S X Y D wr) {o : Obj} (ho : IM.IsMap boolV o (onesE X')) : OMem w g base B Bd m1 m2 va ks S X' Y D (ChangeMaps.setBlock wr m1 o) := by
  have hT := setBlock_turn (w := wr) (m := m1) (o := o)
  have hz := IM.size_setBlock wr m1 o
  have l0 := h.lo
  exact ⟨h.side.turn hT (fun k hk e => h.n1 (e ▸ hk)), fun j hj => by rw [hz]; exact h.lt j hj, h.low, h.nb, h.n1, h.n2, h.na, ⟨o, IM.heap_setBlock_at h.mi.lt, ho⟩, MapAt_turn hT h.mb (fun e => h.ne e.symm), h.ne, h.lo, hT.heap h.box (by omega), h.all.turn hT (fun k hk e => (h.na k hk).2.1 e), h.bel.trans (hT.below (fun j e => by omega) h.bel.size)⟩
theorem OMem.set2 (h : OMem w g base B Bd m1 m2 va ks S X Y D wr) {o : Obj} (ho : IM.IsMap boolV o (onesE Y')) : OMem w g base B Bd m1 m2 va ks S X Y' D (ChangeMaps.setBlock wr m2 o) := by
  have hT := setBlock_turn (w := wr) (m := m2) (o := o)
  have hz := IM.size_setBlock wr m2 o
  have l0 := h.lo
  exact ⟨h.side.turn hT (fun k hk e => h.n2 (e ▸ hk)), fun j hj => by rw [hz]; exact h.lt j hj, h.low, h.nb, h.n1, h.n2, h.na, MapAt_turn hT h.mi (fun e => h.ne e), ⟨o, IM.heap_setBlock_at h.mb.lt, ho⟩, h.ne, h.lo, hT.heap h.box (by omega), h.all.turn hT (fun k hk e => (h.na k hk).2.2 e), h.bel.trans (hT.below (fun j e => by omega) h.bel.size)⟩
theorem OMem.row (h : OMem w g base B Bd m1 m2 va ks S X Y D wr) {n : Nat} {va' : Value} {ks' : List Int} (hr : OwnR 3 1 intC n wr va' ks') (h1 : ∀ j, D j → j < n) (h2 : m1 < n) (h3 : m2 < n) : OMem w g base B Bd m1 m2 va' ks' S X Y D wr :=
  ⟨h.side, h.lt, h.low, h.nb, h.n1, h.n2, fun b hb => ⟨fun hd => by have := h1 b hd; have := (hr.lt b hb).1; omega, by have := (hr.lt b hb).1; omega, by have := (hr.lt b hb).1; omega⟩, h.mi, h.mb, h.ne, h.lo, h.box, hr.mono (by have := h.lo; omega), h.bel⟩
theorem OMem.cells (h : OMem w g base B Bd m1 m2 va ks S X Y D wr) : wr.cell? ⟨w.heap.size, 0, none⟩ = some (.int .i64 g.groups) ∧ wr.cell? ⟨w.heap.size, 1, none⟩ = some (.int .i64 g.inodes) ∧ wr.cell? ⟨w.heap.size, 2, none⟩ = some (.int .i64 g.blocks) :=
  ⟨cellOf h.box rfl, cellOf h.box rfl, cellOf h.box rfl⟩
theorem OMem.ints (h : OMem w g base B Bd m1 m2 va ks S X Y D wr) : Ints wr va ks := OwnR.row (f := intC) (fun _ _ => rfl) h.all
end
/-- How many are free, of all groups. -/
theorem held_free {S : Sp.Side} {g : Sp.Geom} {X Y : List Int} {r : Nat} (h : Held S g X Y r) (hg : g.ok) {ks : List Int} (hk : ∀ k, k ∈ ks ↔ 0 ≤ k ∧ k < g.groups) (hd : ks.Nodup) (hl : (ks.length : Int) = g.groups) :
    S.freeL g ks = some (g.groups * g.inodes - X.length, g.groups * g.blocks - Y.length) := by
  rw [freeL_sum h.ti h.tb ks (fun k h => (hk k).1 h), h.ti.sum (inodeNo_inj g) hk hd, h.tb.sum (blockNo_inj hg) hk hd, hl]
/-- The groups of a geometry. -/
def groupsL (G : Nat) : List Int := (List.range G).map fun i : Nat => (i : Int)
theorem groupsL_mem (G : Nat) (k : Int) : k ∈ groupsL G ↔ 0 ≤ k ∧ k < (G : Int) := by
  unfold groupsL
  rw [List.mem_map]
  constructor
  · rintro ⟨i, hi, rfl⟩
    have := List.mem_range.1 hi
    omega
  · intro h
    exact ⟨k.toNat, List.mem_range.2 (by omega), Int.toNat_of_nonneg h.1⟩
theorem groupsL_nodup (G : Nat) : (groupsL G).Nodup := by
  unfold groupsL List.Nodup
  rw [List.pairwise_map]
  exact (List.nodup_range : (List.range G).Nodup).imp (fun h e => h (by omega))
theorem groupsL_length (G : Nat) : (groupsL G).length = G := by unfold groupsL; simp
theorem groupsL_snoc (G : Nat) : groupsL (G + 1) = groupsL G ++ [(G : Int)] := by unfold groupsL; rw [List.range_succ, List.map_append]; rfl
theorem held_up {S : Sp.Side} {g : Sp.Geom} {X Y : List Int} {r : Nat} (h : Held S g X Y r) : Held S g X Y (r + 1) := ⟨h.ok, h.ti, h.tb, Nat.le_succ_of_le h.few, Nat.le_succ_of_le h.last⟩
theorem held_bd {S : Sp.Side} {g : Sp.Geom} {X Y : List Int} {r : Nat} (h : Held S g X Y r) (hg : g.ok) : (X.length : Int) ≤ g.groups * g.inodes ∧ (Y.length : Int) ≤ g.groups * g.blocks := by
  obtain ⟨G, hG⟩ : ∃ G : Nat, g.groups = (G : Int) := ⟨g.groups.toNat, by have := hg.1; omega⟩
  have hk : ∀ k, k ∈ groupsL G ↔ 0 ≤ k ∧ k < g.groups := fun k => by rw [hG]; exact groupsL_mem G k
  have h1 := (h.ti.le (inodeNo_inj g) hk (groupsL_nodup G)).1
  have h2 := (h.tb.le (blockNo_inj hg) hk (groupsL_nodup G)).1
  rw [numsK_length, groupsL_length] at h1 h2
  have hi : ((manyG g false).toNat : Int) = g.inodes := Int.toNat_of_nonneg (by have := hg.2.2.1; show 0 ≤ g.inodes; omega)
  have hb : ((manyG g true).toNat : Int) = g.blocks := Int.toNat_of_nonneg (by have := hg.2.2.2.2.1; show 0 ≤ g.blocks; omega)
  rw [hG, ← hi, ← hb]
  exact ⟨by exact_mod_cast h1, by exact_mod_cast h2⟩
section
variable {wr : World} {m : Nat} {X : List Int}
theorem ones_lookup (h : IM.MapAt boolV wr m (onesE X)) (n : Int) : (Instr.lookup 40 (.map (some m)) (.int .i64 n) false).run Tryz.prog wr = .ok (.bool (decide (n ∈ X))) wr := by
  have := IM.run_lookup (P := Tryz.prog) Tryz.underlying40 Tryz.underlying3 (z := .bool false) (by kernel_rfl) h n
  rw [this, getM_ones]
  by_cases hn : n ∈ X
  · rw [if_pos hn, decide_eq_true hn]; rfl
  · rw [if_neg hn, decide_eq_false hn]; rfl
theorem ones_update (h : IM.MapAt boolV wr m (onesE X)) {n : Int} (hn : n ∉ X) :
    ∃ o', (Instr.mapUpdate 40 (.map (some m)) (.int .i64 n) (.bool true)).run Tryz.prog wr = .ok () (ChangeMaps.setBlock wr m o') ∧ IM.IsMap boolV o' (onesE (X ++ [n])) := by
  obtain ⟨o, h1, h2⟩ := IM.run_update (P := Tryz.prog) Tryz.underlying40 Tryz.underlying3 h n true
  rw [setM_ones hn] at h2
  exact ⟨o, h1, h2⟩
theorem ones_delete (h : IM.MapAt boolV wr m (onesE X)) (n : Int) {ty : TypeId} :
    ∃ o', (Builtin.delete_ #[40, 3] ty #[.map (some m), .int .i64 n]).run Tryz.prog wr = .ok (.tuple #[]) (ChangeMaps.setBlock wr m o') ∧ IM.IsMap boolV o' (onesE (X.filter (fun x => decide (x ≠ n)))) := by
  obtain ⟨o, h1, h2⟩ := IM.run_delete (P := Tryz.prog) (ty := ty) Tryz.underlying40 Tryz.underlying3 h n
  rw [delM_ones] at h2
  exact ⟨o, h1, h2⟩
theorem ones_len (h : IM.MapAt boolV wr m (onesE X)) {ty : TypeId} : (Builtin.len_ #[40] ty #[.map (some m)]).run Tryz.prog wr = .ok (.int .i64 (X.length : Int)) wr := by
  have := IM.run_len (P := Tryz.prog) (T := 40) (ty := ty) (by kernel_rfl) h
  rw [onesE_length] at this
  exact this
end
end Go.Proofs.YtghafpdmcbockaaGreatDoor
