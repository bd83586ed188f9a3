/-
  A side in memory, part by part, that has its disk to itself. No walk in this text.
-/
import Derived.Test.YtgofmnhfajmbfaaGreatDoorDepsDone
import Derived.Test.YtgofmnhfajmbfaaGreatDoorDiskWrite
import Derived.Test.YtgofmnhfajmbfaaGreatDoorSpJ
namespace Go.Proofs.YtgofmnhfajmbfaaGreatDoor
open Go Go.RowKit Txt Sp

structure SideP (w : World) (base B Bc Bd fm : Nat) (S : Sp.Side) (D Dd : Nat → Prop) : Prop where
  obj : w.heap[B]? = some (softO Bc Bd S.node S.epoch fm)
  deps : DepsAt w base Bc S.deps D
  fly : IM.MapAt intV w fm S.fly
  fmb : base ≤ fm
  fmD : D fm
  fmd : ¬ Dd fm
  disk : DiskAt w 0 Bd S.disk Dd
  sub : ∀ k, Dd k → D k
  own : D B
  low : base ≤ B
/-- What turns blocks of D alone. -/
def OwnTurn (w : World) (D : Nat → Prop) (w' : World) : Prop := ∃ K, (∀ j, K j → D j) ∧ Turn K w w'
theorem OwnTurn.of_below {w w' : World} {D : Nat → Prop} (h : Below w.heap.size w w') : OwnTurn w D w' := ⟨fun _ => False, fun _ h => h.elim, Turn.of_below h⟩
theorem OwnTurn.trans {a b c : World} {D : Nat → Prop} (h : OwnTurn a D b) (k : OwnTurn b D c) : OwnTurn a D c := by
  obtain ⟨K1, d1, t1⟩ := h
  obtain ⟨K2, d2, t2⟩ := k
  exact ⟨fun j => K1 j ∨ K2 j, fun j hj => hj.elim (d1 j) (d2 j), t1.trans t2 (fun _ _ h => Or.inl h) (fun _ _ h => Or.inr h)⟩
theorem OwnTurn.size {w w' : World} {D : Nat → Prop} (h : OwnTurn w D w') : w.heap.size ≤ w'.heap.size := by
  obtain ⟨K, _, hT⟩ := h
  exact hT.size
theorem ChgTurn.ownT {w w' : World} {D : Nat → Prop} (h : ChgTurn w D w') : OwnTurn w D w' := by
  obtain ⟨K, h1, _, h3⟩ := h
  exact ⟨K, h1, h3⟩
theorem DskTurn.ownT {w w' : World} {D Dd : Nat → Prop} (h : DskTurn w Dd w') (hs : ∀ k, Dd k → D k) : OwnTurn w D w' := by
  obtain ⟨K, h1, _, h3⟩ := h
  exact ⟨K, fun j hj => hs j (h1 j hj), h3⟩
theorem DskK.not {w : World} {K : Nat → Prop} (h : DskK w K) {k : Nat} {cs : Array Value} {e : TypeId} {fr : Nat × Nat} (hk : w.heap[k]? = some (.cells cs e fr)) (h1 : e ≠ 198) (h2 : e ≠ 9) : ¬ K k := fun hK => by
  rcases h k hK with ⟨cs', fr', e', h', he⟩ | ⟨es, cl, h'⟩
  · rw [hk] at h'
    cases h'
    exact he.elim h1 h2
  · rw [hk] at h'
    cases h'
section
variable {w w' : World} {base B Bc Bd fm : Nat} {S : Sp.Side} {D Dd : Nat → Prop}
theorem SideAt.parts (h : SideAt w 0 B Bd S D) : ∃ Bc fm Dd, SideP w 0 B Bc Bd fm S D Dd := by
  obtain ⟨⟨Bc, fm, Dd, h1, h2, h3, h4, h5, h9, h6, h6'⟩, h7, h8⟩ := h
  exact ⟨Bc, fm, Dd, h1, h2, h3, h4, h5, h9, h6, fun k hk => (h6' k hk).resolve_right (Nat.not_lt_zero k), h7, h8⟩
theorem SideP.side (h : SideP w base B Bc Bd fm S D Dd) : SideAt w base B Bd S D :=
  ⟨⟨Bc, fm, Dd, h.obj, h.deps, h.fly, h.fmb, h.fmD, h.fmd, h.disk, fun k hk => Or.inl (h.sub k hk)⟩, h.own, h.low⟩
theorem SideP.below (h : SideP w base B Bc Bd fm S D Dd) (hb : Below w.heap.size w w') : SideP w' base B Bc Bd fm S D Dd :=
  ⟨heapOld hb h.obj, h.deps.below hb, h.fly.old (hb.block _ h.fly.lt), h.fmb, h.fmD, h.fmd, h.disk.below hb, h.sub, h.own, h.low⟩
/-- The changes turn. -/
theorem SideP.chg (h : SideP w base B Bc Bd fm S D Dd) {d : Sp.Deps} (hd : DepsAt w' base Bc d D) (hT : ChgTurn w D w') : SideP w' base B Bc Bd fm { S with deps := d } D Dd := by
  obtain ⟨K, k1, k2, hT⟩ := hT
  have h1 := h.obj
  unfold softO at h1
  exact ⟨hT.heap h.obj (k2.not h1 (by decide) (by decide)), hd, mapAt_turn hT h.fly (k2.notMap h.fly), h.fmb, h.fmD, h.fmd, h.disk.turnK hT k2, h.sub, h.own, h.low⟩
/-- Changes do not turn with a disk. -/
theorem DepsAt.turnD {d : Sp.Deps} {K : Nat → Prop} (h : DepsAt w base Bc d D) (hT : Turn K w w') (hK : DskK w K) : DepsAt w' base Bc d D := by
  obtain ⟨⟨v, ps, h1, h2, h3, h4, h5⟩, ho, hl⟩ := h
  have hn : ∀ {e : TypeId} {sz b0 : Nat} {α : Type} {f : α → List Value} {u : Value} {l : List α}, e ≠ 198 → e ≠ 9 → OwnR e sz f b0 w u l → ∀ k, u.ownBlock = some k → ¬ K k := by
    intro e sz b0 α f u l e1 e2 hu k hk
    obtain ⟨_, ⟨rfl, _⟩ | ⟨g, cap, cur, rfl, hg, hh, _⟩⟩ := hu
    · cases hk
    · cases hk
      exact hK.not hh e1 e2
  have h1' := h1
  unfold depsO at h1'
  exact ⟨⟨v, ps, hT.heap h1 (hK.not h1' (by decide) (by decide)), h2, h3.turn hT (hn (by decide) (by decide) h3), h4, fun x hx => ⟨(h5 x hx).1.turn hT (hn (by decide) (by decide) (h5 x hx).1), (h5 x hx).2⟩⟩, ho, hl⟩
/-- The disk turns. -/
theorem SideP.dsk (h : SideP w base B Bc Bd fm S D Dd) {d : Sp.Disk} (hd : DiskAt w' 0 Bd d Dd) (hT : DskTurn w Dd w') : SideP w' base B Bc Bd fm { S with disk := d } D Dd := by
  obtain ⟨K, k1, k2, hT⟩ := hT
  have h1 := h.obj
  unfold softO at h1
  exact ⟨hT.heap h.obj (k2.not h1 (by decide) (by decide)), h.deps.turnD hT k2, mapAt_turn hT h.fly (fun hk => h.fmd (k1 _ hk)), h.fmb, h.fmD, h.fmd, hd, h.sub, h.own, h.low⟩
/-- The map of what is under way turns. -/
theorem SideP.setFly (h : SideP w base B Bc Bd fm S D Dd) {o' : Obj} {l : List (Int × Int)} (ho : IM.IsMap intV o' l) : SideP (ChangeMaps.setBlock w fm o') base B Bc Bd fm { S with fly := l } D Dd ∧ OwnTurn w D (ChangeMaps.setBlock w fm o') := by
  have hT : Turn (fun j => j = fm) w (ChangeMaps.setBlock w fm o') := block_turn
  have hmap : ∃ es cl, w.heap[fm]? = some (.map es cl) := by
    obtain ⟨o, h1, es, cl, rfl, _⟩ := h.fly
    exact ⟨es, cl, h1⟩
  have hne : ∀ {k : Nat} {cs : Array Value} {e : TypeId} {fr : Nat × Nat}, w.heap[k]? = some (.cells cs e fr) → k ≠ fm := fun hk e => by
    obtain ⟨es, cl, hm⟩ := hmap
    rw [e, hm] at hk
    cases hk
  have hrow : ∀ {e : TypeId} {sz b0 : Nat} {α : Type} {f : α → List Value} {u : Value} {l : List α}, OwnR e sz f b0 w u l → ∀ k, u.ownBlock = some k → k ≠ fm := by
    intro e sz b0 α f u l hu k hk
    obtain ⟨_, ⟨rfl, _⟩ | ⟨g, cap, cur, rfl, hg, hh, _⟩⟩ := hu
    · cases hk
    · cases hk
      exact hne hh
  have h1 := h.obj
  unfold softO at h1
  have hdeps : DepsAt (ChangeMaps.setBlock w fm o') base Bc S.deps D := by
    obtain ⟨⟨v, ps, h1, h2, h3, h4, h5⟩, ho, hl⟩ := h.deps
    have h1' := h1
    unfold depsO at h1'
    exact ⟨⟨v, ps, hT.heap h1 (hne h1'), h2, h3.turn hT (hrow h3), h4, fun x hx => ⟨(h5 x hx).1.turn hT (hrow (h5 x hx).1), (h5 x hx).2⟩⟩, ho, hl⟩
  exact ⟨⟨hT.heap h.obj (hne h1), hdeps, ⟨o', IM.heap_setBlock_at h.fly.lt, ho⟩, h.fmb, h.fmD, h.fmd, h.disk.turn hT (fun k hk e => h.fmd (by have e : k = fm := e; exact e ▸ hk)), h.sub, h.own, h.low⟩, fun j => j = fm, fun j e => by have e : j = fm := e; exact e ▸ h.fmD, hT⟩
theorem SideP.turn {K : Nat → Prop} (h : SideP w base B Bc Bd fm S D Dd) (hT : Turn K w w') (hk : ∀ k, D k → ¬ K k) (hKb : ∀ k, K k → base ≤ k) : SideP w' base B Bc Bd fm S D Dd :=
  ⟨hT.heap h.obj (hk _ h.own), h.deps.turn hT hk hKb, mapAt_turn hT h.fly (hk _ h.fmD), h.fmb, h.fmD, h.fmd, h.disk.turn hT (fun k hk' => hk k (h.sub k hk')), h.sub, h.own, h.low⟩
theorem turn_low {n : Nat} (hb : Below n w w') : Turn (fun k => n ≤ k) w w' := ⟨hb.os, hb.tape, hb.output, hb.size, fun k _ hk => hb.block k (by omega)⟩
/-- What turns from n on leaves a side below it. -/
theorem SideP.lowB {n : Nat} (h : SideP w base B Bc Bd fm S D Dd) (hD : ∀ j, D j → j < n) (hb : Below n w w') : SideP w' base B Bc Bd fm S D Dd :=
  h.turn (turn_low hb) (fun k hk hn => by have := hD k hk; omega) (fun k hk => by have := hD _ h.own; have := h.low; omega)
theorem OwnTurn.lowB {w0 : World} (h : OwnTurn w0 D w) (hb : Below w0.heap.size w w') : OwnTurn w0 D w' := by
  obtain ⟨K, h1, hT⟩ := h
  exact ⟨K, h1, ⟨hb.os.trans hT.os, hb.tape.trans hT.tape, hb.output.trans hT.output, Nat.le_trans hT.size hb.size, fun k hk hn => (hb.block k hk).trans (hT.block k hk hn)⟩⟩
theorem OwnR.ownT {α : Type} {e : TypeId} {sz b0 : Nat} {f : α → List Value} {u : Value} {l : List α} (hu : OwnR e sz f b0 w u l) (hT : OwnTurn w D w') (hD : ∀ j, D j → j < b0) : OwnR e sz f b0 w' u l := by
  obtain ⟨K, h1, hT⟩ := hT
  exact hu.turn hT (fun k hk hK => by have := (hu.lt k hk).1; have := hD k (h1 k hK); omega)
end
end Go.Proofs.YtgofmnhfajmbfaaGreatDoor
